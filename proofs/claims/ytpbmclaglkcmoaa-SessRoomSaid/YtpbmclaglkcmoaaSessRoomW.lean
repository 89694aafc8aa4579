import Derived.Test.YtpbmclaglkcmoaaSessRoom
import Derived.Deep.DeepCutAuto
import Derived.Deep.CutBlock
namespace Go.Proofs.Ytpbmclaglkcmoaa
open Go.RowKit
set_option linter.unusedVariables false
set_option linter.unusedSimpArgs false

set_option maxRecDepth 100000 in
set_option maxHeartbeats 2000000 in
theorem sessRoom_calls (A0 : Option Addr) (c0 : Nat) (sl : List ByteArray) (w : World) (hc : sl.length ≤ c0) (hm : c0 ≤ maxLen) (hI : StrsT w A0 sl) (hw : ∀ x ∈ sl, x.size ≤ maxLen) :
    Calls Try.prog 4 #[.slice A0 sl.length c0] w fun r w' => r = .returned (.bool true) ∧ Below w.heap.size w w' := by
  unfold maxLen at hm hw
  have hn0 : (0 : Int) ≤ (sl.length : Int) := Int.natCast_nonneg _
  have hcc : (sl.length : Int) ≤ (c0 : Int) := by omega
  by_cases h100 : (100 : Int) < (sl.length : Int)
  · have h1 : decide ((100 : Int) < (sl.length : Int)) = true := by simpa using h100
    clear hI hw
    go_enter Try.func4, Try.ntmps4
    go_wp2_with fail
    refine (alive15_calls _).mono ?_
    rintro e w1 ⟨rfl, hb1⟩
    have HB1 := Lib.hid hb1
    clear hb1
    go_wp2
    go_ret
    exact ⟨rfl, HB1.out⟩
  have h1 : decide ((100 : Int) < (sl.length : Int)) = false := by simpa using h100
  have hl100 : (sl.length : Int) ≤ 100 := by omega
  have HI := Lib.hid hI
  have HW := Lib.hid hw
  clear hI hw h100
  go_enter Try.func4, Try.ntmps4
  go_wp2_with fail
  refine (shortT_calls 100 3000 A0 c0 sl _ HI.out hc (by omega) (fun x hx => HW.out x hx) (by decide) (by decide) (by decide)).mono ?_
  rintro e w1 ⟨b, hshort, rfl, hb1⟩
  have HB1 := Lib.hid hb1
  have HSH := Lib.hid hshort
  clear hb1 hshort
  cases b with
  | false =>
    go_wp2_with fail
    refine (alive15_calls _).mono ?_
    rintro e w2 ⟨rfl, hb2⟩
    have HB2 := Lib.hid hb2
    clear hb2
    go_wp2
    go_ret
    exact ⟨rfl, bl HB1.out HB2.out⟩
  | true =>
    have HSZ := Lib.hid (show ∀ x ∈ sl, x.size ≤ 3000 from fun x hx => by have := (HSH.out rfl).2 x hx; omega)
    clear HSH
    go_wp2_with fail
    refine (sessNew_calls 1 2 1 _).mono ?_
    rintro e w2 ⟨A, hA, rfl, hs1, hb2⟩
    go_wp2_with fail
    refine (sessNew_calls 2 1 1 _).mono ?_
    rintro e w3 ⟨B, hB, rfl, hs2, hb3⟩
    have hpn := pair_new hs1 hb2 hs2 hb3
    have HC0 := Lib.hid (show RoomC (fun k => if k < w1.heap.size then 0 else if k < w2.heap.size then 1 else 2) w A B (sA 0 [] (wl false 0 [])) (sB 0 0 false) (.slice none 0 0) [] (.slice none 0 0) [] w3 from
      ⟨⟨fun k hk => hpn.old k (Nat.lt_of_lt_of_le hk HB1.out.size), hpn.a, hpn.b, bl HB1.out hpn.below⟩, ⟨World.ownsRow_nil _ _ _ _, by simp [Value.ownBlock]⟩, ⟨World.ownsRow_nil _ _ _ _, by simp [Value.ownBlock]⟩⟩)
    clear hs1 hb2 hs2 hb3 hpn HB1 HW
    obtain ⟨i0, hzi, hz0, hz1, hz2⟩ := info_parts Try.info9w
    go_wp2_with fail
    go_loopw [5, 7] (fun s5 s7 wr => ∃ (k : Nat) (want : List ByteArray) (vw : Value) (own : Nat → Nat), k ≤ sl.length ∧ s7 = .int .i64 k ∧ s5 = vw ∧ Hid (want.length ≤ 64) ∧ Hid (∀ d ∈ want, d.size ≤ 3000) ∧ Hid (RoomC own w A B (sA 0 want (wl false 0 want)) (sB 0 0 false) vw want (.slice none 0 0) [] wr)) (fun _ s7 _ => sl.length - (intOf s7).toNat)
    case atStart => exact ⟨0, [], _, _, Nat.zero_le _, rfl, rfl, Nat.zero_le _, Lib.hid (by simp), HC0.out⟩
    case round =>
      clear HC0
      obtain ⟨k, want, vw, own, hk, rfl, rfl, HL, HD, HC⟩ := hrel
      by_cases hlt : k < sl.length
      · obtain ⟨a, hA0, d0⟩ := (HI.out k hlt)
        subst hA0
        have d1 := (HC.out.p.below.cell (World.block_lt_of_cell? _ _ d0)).trans d0
        have d1' := d0
        have hds := HSZ.out _ (List.getElem_mem hlt)
        generalize sl[k] = d at d1 hds d1'
        clear d0
        have hk0 : (0 : Int) ≤ (k : Int) := Int.natCast_nonneg _
        have hk1 : (k : Int) < (sl.length : Int) := by omega
        go_wp2_with fail
        refine (sendS_calls _ A (sA 0 want (wl false 0 want)) d _ HC.out.p.a (N := 64) (by decide) (sA_ok 0 false want HL.out HD.out) (by omega)).mono ?_
        rintro e w4 ⟨rfl, hs4, hk4⟩
        have hse := sA_send want d hds
        by_cases h64 : want.length = 64
        · rw [if_pos h64] at hse
          rw [hse] at hs4
          rw [hse]
          have HC4 := Lib.hid (HC.out.stepA (own' := newOwn own wr.heap.size 1) hk4 (fun k hk => if_pos hk) (keep_self (keeps_SS _ _) hs4 (fun k hk => hk)))
          obtain ⟨A5, c5, rfl⟩ := own_slice _ HC4.out.want.1
          clear hs4 hk4 hse
          have t1 : decide ((want.length : Int) < 64) = false := by simp; omega
          have t2 : decide (want.length < 64) = false := by simp; omega
          generalize hln : want.length = n at *
          subst h64
          have HLN := Lib.hid hln
          clear hln
          go_wp2
          go_roundw
          case rel => exact ⟨k + 1, want, _, _, by omega, by go_num, rfl, by rw [HLN.out]; exact HL, HD, HC4⟩
          case measure => simp [intOf]; omega
        · rw [if_neg h64] at hse
          rw [hse] at hs4
          rw [hse]
          have HC4 := Lib.hid (HC.out.stepA (own' := newOwn own wr.heap.size 1) hk4 (fun k hk => if_pos hk) (keep_self (keeps_SS _ _) hs4 (fun k hk => hk)))
          obtain ⟨A5, c5, hA5⟩ := own_slice _ HC4.out.want.1
          clear hs4 hk4 hse
          have hlt64 : want.length < 64 := by have := HL.out; omega
          have t1 : decide ((want.length : Int) < 64) = true := by simp; omega
          have t2 : decide (want.length < 64) = true := by simp; omega
          have d4 := (HC4.out.p.below.cell (World.block_lt_of_cell? _ _ d1')).trans d1'
          subst hA5
          generalize hln : want.length = n at *
          have HLN := Lib.hid hln
          clear hln h64
          go_wp2_with (at_builtin; refine wpList_append_src _ rfl (.tmp 61) (.tmp 66) 27 rfl 9 i0 (.string ⟨#[]⟩) 1 16 Try.underlying27 hzi hz0 hz1 hz2 rfl (by decide) (.slice A5 n c5) n (strC want) rfl ?c0 (.slice (some ⟨w4.heap.size, 0, none⟩) 1 1) 1 [.string d] rfl ?c1 (by simp [Value.oneCell']) ?c2 ?c3 ?_)
          case c0 => have := HC4.out.want.1.alloc (.cells #[.string d] 9); rw [HLN.out] at this; exact this
          case c1 =>
            refine ⟨rfl, .inr ⟨_, 1, rfl, ?_⟩⟩
            intro i u hu
            rw [Addr.add_mid, Nat.zero_add, Lib.cell_of_heap (heap_new_at _ _ _ (by simp))]
            simpa using hu
          case c2 => unfold maxLen; omega
          case c3 => omega
          intro v' w7 ho7 hg7 hw7
          obtain ⟨A7, c7, rfl⟩ := own_slice _ ho7
          have HC7 := Lib.hid ((HC4.out.alloc _).want1 (want' := want ++ [d]) hg7 (by rw [strC_append, List.length_append, HLN.out]; exact ho7) (fun k e => by rw [World.size_alloc]; exact hw7 k e))
          have HD7 := Lib.hid (show ∀ x ∈ want ++ [d], x.size ≤ 3000 from fun x hx => by
            rcases List.mem_append.1 hx with hx | hx
            · exact HD.out x hx
            · rw [List.mem_singleton] at hx; rw [hx]; exact hds)
          clear ho7 hg7 hw7
          go_wp2
          go_roundw
          case rel => exact ⟨k + 1, want ++ [d], _, _, by omega, by go_num, rfl, by show (want ++ [d]).length ≤ 64; rw [List.length_append, HLN.out]; simp; omega, HD7, HC7⟩
          case measure => simp [intOf]; omega
      · have hke : k = sl.length := by omega
        subst hke
        clear hlt hk
        have HG := Lib.hid (show RoomC own w A B (stR want 0).1 (stR want 0).2.1 u5 want (.slice none 0 0) (stR want 0).2.2 wr from by
          cases want with
          | nil => exact HC.out
          | cons d l => exact HC.out)
        clear HC HI HSZ
        go_wp2_with fail
        go_loopw [6, 9] (fun s6 s9 wr => ∃ (k : Nat) (vg : Value) (own : Nat → Nat), k ≤ 12 ∧ s9 = .int .i64 k ∧ s6 = vg ∧ Hid (RoomC own w A B (stR want k).1 (stR want k).2.1 u5 want vg (stR want k).2.2 wr)) (fun _ s9 _ => 12 - (intOf s9).toNat)
        case atStart => exact ⟨0, _, _, Nat.zero_le _, rfl, rfl, HG.out⟩
        case round =>
          clear HG
          obtain ⟨k, vg, own, hk, rfl, rfl, HC⟩ := hrel
          by_cases hlt : k < 12
          · have hnx := stR_next want k
            obtain ⟨hoa, hob⟩ := stR_ok want HL.out HD.out k
            have hgl : (stR want k).2.2.length ≤ 64 := by
              have := HL.out
              unfold stR
              split
              · simp
              · split
                · simp
                · split
                  · simp
                  · exact this
            generalize hnxx : (stR want (k + 1)) = nx at hnx
            have HNXX := Lib.hid hnxx
            clear hnxx
            generalize (stR want k).1 = sa at *
            generalize (stR want k).2.1 = sb at *
            generalize (stR want k).2.2 = got at *
            have HNX := Lib.hid hnx
            have HOA := Lib.hid hoa
            have HOB := Lib.hid hob
            have HGL := Lib.hid hgl
            clear hnx hoa hob hgl
            have hk0 : (0 : Int) ≤ (k : Int) := Int.natCast_nonneg _
            have hk1 : (k : Int) < 12 := by omega
            go_wp2_with fail
            refine (sessTick_calls _ A sa _ (keep_low1 (keeps_SS _ _) HC.out.p.a) (N := 64) (by decide) HOA.out).mono ?_
            rintro e w5 ⟨vf, rfl, hf5, hv5, hs5, hk5⟩
            have HF := Lib.hid (show RowI 34 8 vf sa.tick.outF.length (frC sa.tick.outF) (fun k => own2 own wr.heap.size vf 0 5 k = 5) w5 from fresh_row own wr.heap.size 0 5 hf5 hv5)
            have HC5 := Lib.hid (HC.out.stepA (own' := own2 own wr.heap.size vf 0 5) (kept_low hk5) own2_old (self_low (keeps_SS _ _) hs5 own2_old))
            obtain ⟨Af, cf, rfl⟩ := own_slice _ hf5
            clear hf5 hv5 hs5 hk5 HC
            have hfl : sa.tick.outF.length ≤ 65 := by
              have := HOA.out.len
              unfold Se.outF
              split
              · simp
              · unfold Se.sends
                rw [List.length_map]
                have := List.length_filter_le (fun x : Wt => !x.sent) sa.tick.out
                have e : sa.tick.out.length = sa.out.length := by simp [Se.tick]
                omega
            have hff : ∀ f ∈ sa.tick.outF, 0 ≤ f.seq ∧ f.seq ≤ 64 ∧ f.data.size ≤ 3000 := HOA.out.tick.frames (by decide)
            generalize hfs : sa.tick.outF = fs at *
            have HFS := Lib.hid hfs
            have HFF := Lib.hid hff
            clear hfs hff
            generalize own2 own wr.heap.size (Value.slice Af fs.length cf) 0 5 = own5 at *
            have HFL := Lib.hid hfl
            go_wp2_with fail
            go_loopw [6, 11] (fun s6 s11 wr => ∃ (i : Nat) (vg : Value) (own : Nat → Nat), i ≤ fs.length ∧ s11 = .int .i64 i ∧ s6 = vg ∧
                Hid (RoomC own w A B sa.tick.outS (runT sb (fs.take i)).1 u5 want vg (got ++ (runT sb (fs.take i)).2) wr) ∧ Hid (RowI 34 8 (.slice Af fs.length cf) fs.length (frC fs) (fun k => own k = 5) wr)) (fun _ s11 _ => fs.length - (intOf s11).toNat)
            case atStart =>
              refine ⟨0, _, own5, Nat.zero_le _, rfl, rfl, ?_, HF.out⟩
              simp only [List.take_zero, runT, List.append_nil]
              exact HC5.out
            case round =>
              clear HC5 HF
              obtain ⟨i, vg2, own2', hi, rfl, rfl, HC, HF⟩ := hrel
              by_cases hlt2 : i < fs.length
              · obtain ⟨g, cg, hA2, hg, x0, x1, x2, x3, x4, x5, x6, x7⟩ := frow_at HF.out.1 i hlt2
                obtain ⟨hq0, hq1, hq2⟩ := HFF.out _ (List.getElem_mem hlt2)
                have hsn : runT sb (fs.take (i + 1)) = (((runT sb (fs.take i)).1.take fs[i]).2, (runT sb (fs.take i)).2 ++ ((runT sb (fs.take i)).1.take fs[i]).1.1) := by
                  rw [List.take_succ_eq_append_getElem hlt2, runT_snoc]
                have hokb : (runT sb (fs.take i)).1.Ok 64 := runT_ok (by decide) _ _ HOB.out (fun f hf => by have := HFF.out f (List.mem_of_mem_take hf); exact this.2)
                have hrl : (runT sb (fs.take i)).2.length ≤ 4290 := by
                  have h1 := runT_len (fs.take i) sb
                  have h2 := List.length_take_le i fs
                  have h3 := HFL.out
                  omega
                generalize hff : fs[i] = f at *
                generalize runT sb (fs.take i) = rt at *
                have HSN := Lib.hid hsn
                have HOKB := Lib.hid hokb
                clear hsn hokb hff
                injection hA2 with hA2 _ hA3
                subst hA2
                subst hA3
                have hi0 : (0 : Int) ≤ (i : Int) := Int.natCast_nonneg _
                have hi1 : (i : Int) < (fs.length : Int) := by omega
                have hi2 : (fs.length : Int) ≤ 65 := by have := HFL.out; omega
                go_wp2_with fail
                refine (sessTake_calls _ B rt.1 f _ (keep_low1 (keeps_SS _ _) HC.out.p.b) (N := 64) (by decide) (by decide) HOKB.out ⟨hq0, by omega⟩ hq2).mono ?_
                rintro e w6 ⟨v6, rfl, hr6, hv6, hc6, G6, hG6, hs6, hk6⟩
                have HC6 := Lib.hid (HC.out.stepB (own' := own2 own2' wr.heap.size v6 2 7) (kept_low hk6) own2_old (self_take (keeps_SS _ _) hs6 hG6))
                have HF6 := Lib.hid (keep_oth (keeps_Row _ _ _ _ _) HF.out (kept_low hk6) (by decide) (own' := own2 own2' wr.heap.size v6 2 7) own2_old)
                have HR6 := Lib.hid hr6
                obtain ⟨A6, c6, rfl⟩ := own_slice _ hr6
                clear hr6 hv6 hc6 hG6 hs6 hk6 HC HF x0 x1 x2 x3 x4 x5 x6 x7
                have htl : (rt.1.take f).1.1.length ≤ 66 := by
                  have := runT_len [f] rt.1
                  simpa [runT] using this
                have hgl2 : got.length ≤ 64 := HGL.out
                go_wp2_with (at_builtin; refine wpList_append_src _ rfl (.tmp 89) (.tmp 90) 27 rfl 9 i0 (.string ⟨#[]⟩) 1 16 Try.underlying27 hzi hz0 hz1 hz2 rfl (by decide) _ (got ++ rt.2).length (strC (got ++ rt.2)) rfl ?c4 _ (rt.1.take f).1.1.length (strC (rt.1.take f).1.1) rfl ?c5 (strC_oneT _) ?c6 ?c7 ?_)
                case c4 => exact HC6.out.got.1
                case c5 => exact SrcV.own HR6.out
                case c6 => unfold maxLen; rw [List.length_append]; omega
                case c7 => rw [List.length_append]; omega
                intro v' w7 ho7 hg7 hw7
                have HC7 := Lib.hid (HC6.out.got1 (got' := (got ++ rt.2) ++ (rt.1.take f).1.1) hg7 (by rw [strC_append, List.length_append, List.length_append]; exact ho7) hw7)
                have HF7 := Lib.hid (keep_oth (keeps_Row _ _ _ _ _) HF6.out (i := 4) ((KeptF.refl _ w6).grown hg7 (fun k e => .inl (HC6.out.got.2 k e))) (by decide) (own' := newOwn (own2 own2' wr.heap.size (.slice A6 (rt.1.take f).1.1.length c6) 2 7) w6.heap.size 4) (fun k hk => if_pos hk))
                clear ho7 hg7 hw7
                go_wp2
                go_roundw
                case rel =>
                  refine ⟨i + 1, _, _, by omega, by go_num, rfl, ?_, HF7⟩
                  rw [HSN.out]
                  have := HC7.out
                  rw [List.append_assoc] at this
                  exact this
                case measure => simp [intOf]; omega
              · have hie : i = fs.length := by omega
                subst hie
                clear hlt2 hi
                have hrt : Hid (RoomC own2' w A B sa.tick.outS (runT sb fs).1 u5 want u6 (got ++ (runT sb fs).2) wr) := by
                  have := HC.out
                  rw [List.take_length] at this
                  exact this
                have hokb : (runT sb fs).1.Ok 64 := runT_ok (by decide) _ _ HOB.out (fun f hf => (HFF.out f hf).2)
                have hrr : roundR sa sb = ((runT sa.tick.outS (runT sb fs).1.outF).1, (runT sb fs).1.outS, (runT sb fs).2) := by
                  unfold roundR
                  rw [HFS.out]
                have hfl2 : (runT sb fs).1.outF.length ≤ 65 := by
                  have := hokb.len
                  unfold Se.outF
                  split
                  · simp
                  · unfold Se.sends
                    rw [List.length_map]
                    have := List.length_filter_le (fun x : Wt => !x.sent) (runT sb fs).1.out
                    omega
                have hff2 : ∀ f ∈ (runT sb fs).1.outF, 0 ≤ f.seq ∧ f.seq ≤ 64 ∧ f.data.size ≤ 3000 := hokb.frames (by decide)
                have HRR := Lib.hid hrr
                have HOKB := Lib.hid hokb
                clear hrr hokb HC HF
                go_wp2_with fail
                refine (sessOut_calls _ B (runT sb fs).1 _ (keep_low1 (keeps_SS _ _) hrt.out.p.b) (N := 64) (by decide) HOKB.out).mono ?_
                rintro e w8 ⟨v8, rfl, hf8, hv8, hs8, hk8⟩
                have HF8 := Lib.hid (show RowI 34 8 v8 (runT sb fs).1.outF.length (frC (runT sb fs).1.outF) (fun k => own2 own2' wr.heap.size v8 0 6 k = 6) w8 from fresh_row own2' wr.heap.size 0 6 hf8 hv8)
                have HC8 := Lib.hid (hrt.out.stepB (own' := own2 own2' wr.heap.size v8 0 6) (kept_low hk8) own2_old (self_low (keeps_SS _ _) hs8 own2_old))
                obtain ⟨A8, c8, rfl⟩ := own_slice _ hf8
                clear hf8 hv8 hs8 hk8 hrt
                generalize hgs : (runT sb fs).1.outF = gs at *
                have HGS := Lib.hid hgs
                have HFF2 := Lib.hid hff2
                clear hgs hff2
                generalize own2 own2' wr.heap.size (Value.slice A8 gs.length c8) 0 6 = own8 at *
                go_wp2_with fail
                go_loopw [15] (fun s15 wr => ∃ (i : Nat) (own : Nat → Nat), i ≤ gs.length ∧ s15 = .int .i64 i ∧
                    Hid (RoomC own w A B (runT sa.tick.outS (gs.take i)).1 (runT sb fs).1.outS u5 want u6 (got ++ (runT sb fs).2) wr) ∧ Hid (RowI 34 8 (.slice A8 gs.length c8) gs.length (frC gs) (fun k => own k = 6) wr)) (fun s15 _ => gs.length - (intOf s15).toNat)
                case atStart => exact ⟨0, own8, Nat.zero_le _, rfl, HC8.out, HF8.out⟩
                case round =>
                  clear HC8 HF8
                  obtain ⟨i, own3', hi, rfl, HC, HF⟩ := hrel
                  by_cases hlt3 : i < gs.length
                  · obtain ⟨g, cg, hA2, hg, x0, x1, x2, x3, x4, x5, x6, x7⟩ := frow_at HF.out.1 i hlt3
                    obtain ⟨hq0, hq1, hq2⟩ := HFF2.out _ (List.getElem_mem hlt3)
                    have hsn : runT sa.tick.outS (gs.take (i + 1)) = (((runT sa.tick.outS (gs.take i)).1.take gs[i]).2, (runT sa.tick.outS (gs.take i)).2 ++ ((runT sa.tick.outS (gs.take i)).1.take gs[i]).1.1) := by
                      rw [List.take_succ_eq_append_getElem hlt3, runT_snoc]
                    have hoka : (runT sa.tick.outS (gs.take i)).1.Ok 64 := runT_ok (by decide) _ _ HOA.out.tick.outS (fun f hf => by have := HFF2.out f (List.mem_of_mem_take hf); exact this.2)
                    generalize hff : gs[i] = f at *
                    generalize runT sa.tick.outS (gs.take i) = rt at *
                    have HSN := Lib.hid hsn
                    have HOKA := Lib.hid hoka
                    clear hsn hoka hff
                    injection hA2 with hA2 _ hA3
                    subst hA2
                    subst hA3
                    have hi0 : (0 : Int) ≤ (i : Int) := Int.natCast_nonneg _
                    have hi1 : (i : Int) < (gs.length : Int) := by omega
                    have hi2 : (gs.length : Int) ≤ 65 := by omega
                    go_wp2_with fail
                    refine (sessTake_calls _ A rt.1 f _ (keep_low1 (keeps_SS _ _) HC.out.p.a) (N := 64) (by decide) (by decide) HOKA.out ⟨hq0, by omega⟩ hq2).mono ?_
                    rintro e w9 ⟨v9, rfl, hr9, hv9, hc9, G9, hG9, hs9, hk9⟩
                    have HC9 := Lib.hid (HC.out.stepA (own' := own2 own3' wr.heap.size v9 1 7) (kept_low hk9) own2_old (self_take (keeps_SS _ _) hs9 hG9))
                    have HF9 := Lib.hid (keep_oth (keeps_Row _ _ _ _ _) HF.out (kept_low hk9) (by decide) (own' := own2 own3' wr.heap.size v9 1 7) own2_old)
                    clear hr9 hv9 hc9 hG9 hs9 hk9 HC HF x0 x1 x2 x3 x4 x5 x6 x7
                    go_wp2
                    go_roundw
                    case rel =>
                      refine ⟨i + 1, _, by omega, by go_num, ?_, HF9⟩
                      rw [HSN.out]
                      exact HC9
                    case measure => simp [intOf]; omega
                  · have hie : i = gs.length := by omega
                    subst hie
                    clear hlt3 hi
                    have hrt : Hid (RoomC own3' w A B nx.1 nx.2.1 u5 want u6 nx.2.2 wr) := by
                      have h1 := HC.out
                      rw [List.take_length] at h1
                      obtain ⟨h2, h3⟩ := HNX.out
                      rw [HRR.out] at h2
                      simp only [Prod.mk.injEq] at h2
                      rw [h3, ← h2.2.2, ← h2.1, ← h2.2.1]
                      exact h1
                    clear HC HF
                    go_wp2
                    go_roundw
                    case rel => exact ⟨k + 1, _, _, by omega, by go_num, rfl, by rw [HNXX.out]; exact hrt⟩
                    case measure => simp [intOf]; omega
          · have hke : k = 12 := by omega
            subst hke
            obtain ⟨hend, hout⟩ := stR_end want
            have hcc2 := HC.out
            rw [hend] at hcc2
            have HCE := Lib.hid hcc2
            have HOUT := Lib.hid hout
            clear hcc2 HC hend hout
            go_wp2_with fail
            refine (alive15_calls _).mono ?_
            rintro e w10 ⟨rfl, hb10⟩
            have HC10 := Lib.hid (HCE.out.below hb10)
            clear hb10 HCE
            obtain ⟨Ag, cg, hvg⟩ := own_slice _ HC10.out.got.1
            obtain ⟨Aw, cw, hvw⟩ := own_slice _ HC10.out.want.1
            subst hvg
            subst hvw
            go_wp2_with fail
            refine (sameT2_draws Ag Aw cg cw want _ (StrsT.own HC10.out.got.1) (StrsT.own HC10.out.want.1) (own_cap HC10.out.got.1).1 (own_cap HC10.out.want.1).1 (own_cap HC10.out.got.1).2).mono ?_
            rintro e w11 ⟨rfl, m, rfl⟩
            go_wp2_with fail
            refine (waiting_calls _ A _ _ (SS.drewN HC10.out.p.a m)).mono ?_
            rintro e w12 ⟨rfl, rfl⟩
            rw [HOUT.out]
            go_wp2
            go_ret
            exact ⟨rfl, HC10.out.p.below.trans ⟨rfl, rfl, rfl, Nat.le_refl _, fun _ _ => rfl⟩⟩

end Go.Proofs.Ytpbmclaglkcmoaa
