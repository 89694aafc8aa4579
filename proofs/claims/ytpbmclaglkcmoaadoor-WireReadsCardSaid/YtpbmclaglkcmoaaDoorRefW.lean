import Derived.Test.YtpbmclaglkcmoaaDoorWireCounts
import Derived.Lib.SmallJoins
import Derived.Deep.AppendLies
namespace Go.Proofs.YtpbmclaglkcmoaaDoor
open Go.RowKit
set_option linter.unusedVariables false
set_option linter.unusedSimpArgs false

/-! The document's own writer. -/
/-- A commonsref1.Writer at the head of block b: its bytes, its error. F: the blocks that it may own. -/
def Wx (F : Nat → Prop) (b : Nat) (bs : List UInt8) (err : Int) (w : World) : Prop :=
  F b ∧ ∃ v, w.heap[b]? = some (.cells #[v, .int .i64 err] 41 (0, 0)) ∧ w.ownsRow 0 5 1 v bs.length (Lib.byteCells bs) ∧ ∀ k, v.ownBlock = some k → F k

theorem Wx.lt {F : Nat → Prop} {b : Nat} {bs : List UInt8} {err : Int} {w : World} (h : Wx F b bs err w) : b < w.heap.size := by
  obtain ⟨_, v, hb, _⟩ := h
  exact lt_of_heap hb

theorem Wx.mono {F G : Nat → Prop} {b : Nat} {bs : List UInt8} {err : Int} {w : World} (h : Wx F b bs err w) (hG : ∀ k, F k → G k) : Wx G b bs err w := by
  obtain ⟨h1, v, hb, ho, hk⟩ := h
  exact ⟨hG _ h1, v, hb, ho, fun k e => hG _ (hk k e)⟩

/-- A writer that nobody touches stays. -/
theorem Wx.keep {F G : Nat → Prop} {b : Nat} {bs : List UInt8} {err : Int} {w w' : World} (h : Wx F b bs err w) (hk : KeptF G w w') (hd : ∀ k, F k → ¬ G k) : Wx F b bs err w' := by
  obtain ⟨h1, v, hb, ho, hF⟩ := h
  refine ⟨h1, v, (hk.block b (lt_of_heap hb) (hd _ h1)).trans hb, ownsRow_keep ho ?_, hF⟩
  intro k e
  exact hk.block k (ho.lt k e).2 (hd _ (hF k e))

theorem Wx.setErr {F : Nat → Prop} {b : Nat} {bs : List UInt8} {err : Int} {w : World} (h : Wx F b bs err w) (e : Int) : Wx F b bs e (w.setCell ⟨b, 1, none⟩ (.int .i64 e)) := by
  obtain ⟨h1, v, hb, ho, hF⟩ := h
  have hne := Lib.ownBlock_ne ho hb (by decide)
  refine ⟨h1, v, by simp [World.setCell, Array.getElem?_modify, hb], ownsRow_keep ho ?_, hF⟩
  intro k ek
  exact Below.heap_setCell _ _ _ _ (fun e' => hne (by rw [ek]; exact congrArg some e'))

theorem Wx.put {F : Nat → Prop} {b : Nat} {v v' : Value} {bs' : List UInt8} {err : Int} {w : World} (h1 : F b) (hb : w.heap[b]? = some (.cells #[v, .int .i64 err] 41 (0, 0))) (ho : w.ownsRow 0 5 1 v' bs'.length (Lib.byteCells bs')) (hF : ∀ k, v'.ownBlock = some k → F k) :
    Wx F b bs' err (w.setCell ⟨b, 0, none⟩ v') := by
  have hne := Lib.ownBlock_ne ho hb (by decide)
  refine ⟨h1, v', by simp [World.setCell, Array.getElem?_modify, hb], ownsRow_keep ho ?_, hF⟩
  intro k ek
  exact Below.heap_setCell _ _ _ _ (fun e' => hne (by rw [ek]; exact congrArg some e'))

theorem Wx.cells {F : Nat → Prop} {b : Nat} {bs : List UInt8} {err : Int} {w : World} (h : Wx F b bs err w) : ∃ v, w.cell? ⟨b, 0, none⟩ = some v ∧ w.cell? ⟨b, 1, none⟩ = some (.int .i64 err) ∧ w.frozen? ⟨b, 0, none⟩ = false ∧ w.frozen? ⟨b, 1, none⟩ = false := by
  obtain ⟨h1, v, hb, ho, hF⟩ := h
  exact ⟨v, by rw [Lib.cell_of_heap hb]; rfl, by rw [Lib.cell_of_heap hb]; rfl, Lib.frozen_of_heap hb 0, Lib.frozen_of_heap hb 1⟩

set_option maxHeartbeats 400000 in
theorem xfail_calls (F : Nat → Prop) (b : Nat) (bs : List UInt8) (err e : Int) (w : World) (h : Wx F b bs err w) :
    Calls Tryd.prog 65 #[.pointer (some ⟨b, 0, none⟩), .int .i64 e] w fun r w' => r = .returned (.bool (failErr err e != 0)) ∧ Wx F b bs (failErr err e) w' ∧ KeptF F w w' := by
  obtain ⟨v, c0, c1, f0, f1⟩ := h.cells
  by_cases he : err = 0
  · subst he
    have hs := Lib.hid (h.setErr e)
    have hF := Lib.hid h.1
    clear h
    go_enter Tryd.func65, Tryd.ntmps65
    go_wp2
    go_ret
    exact ⟨by simp [failErr], hs.out, (KeptF.refl F w).setCell (.inl hF.out) _⟩
  · have he1 : (err == 0) = false := beq_eq_false_iff_ne.2 he
    have he2 : (err != 0) = true := bne_iff_ne.2 he
    have hs := Lib.hid h
    clear h
    go_enter Tryd.func65, Tryd.ntmps65
    go_wp2
    go_ret
    exact ⟨by simp [failErr, he], by simpa [failErr, he] using hs.out, KeptF.refl F w⟩

theorem Wx.grown_head {b n : Nat} {bs : List UInt8} {v : Value} {err : Int} {w w' : World} (hb : w.heap[b]? = some (.cells #[v, .int .i64 err] 41 (0, 0))) (ho : w.drew.ownsRow 0 5 1 v n (Lib.byteCells bs)) (hg : w.drew.grownBy w' v.ownBlock) :
    w'.heap[b]? = some (.cells #[v, .int .i64 err] 41 (0, 0)) := by
  have hb' : w.drew.heap[b]? = some (.cells #[v, .int .i64 err] 41 (0, 0)) := hb
  rw [hg.block b (lt_of_heap hb') (fun e => Lib.ownBlock_ne ho hb' (by decide) e.symm)]
  exact hb'
theorem Wx.head_cell {b : Nat} {v : Value} {err : Int} {w : World} (hb : w.heap[b]? = some (.cells #[v, .int .i64 err] 41 (0, 0))) : w.cell? ⟨b, 0, none⟩ = some v := by rw [Lib.cell_of_heap hb]; rfl
theorem Wx.head_free {b : Nat} {v : Value} {err : Int} {w : World} (hb : w.heap[b]? = some (.cells #[v, .int .i64 err] 41 (0, 0))) : w.frozen? ⟨b, 0, none⟩ = false := Lib.frozen_of_heap hb 0


theorem leB_snoc : ∀ (k : Nat) (v : Int), leB (k + 1) v = leB k v ++ [UInt8.ofNat ((v / 256 ^ k).toNat % 256)]
  | 0, v => by simp [leB]
  | k + 1, v => by
    have h := leB_snoc k (v / 256)
    rw [leB, h]
    simp only [leB, List.cons_append]
    congr 4
    rw [Int.pow_succ, Int.mul_comm (256 ^ k) 256, Int.ediv_ediv_of_nonneg (by decide)]

theorem wrong_div (v n : Int) (h1 : 1 ≤ n) (h8 : n ≤ 8) (hv : 0 ≤ v) (hv2 : v < 18446744073709551616) : wrongN v n = if v / 256 ^ n.toNat = 0 then 0 else 1 := by
  have h3 : n = 1 ∨ n = 2 ∨ n = 3 ∨ n = 4 ∨ n = 5 ∨ n = 6 ∨ n = 7 ∨ n = 8 := by omega
  unfold wrongN
  rcases h3 with rfl | rfl | rfl | rfl | rfl | rfl | rfl | rfl
  all_goals
    simp
    try omega

theorem Wx.below {F : Nat → Prop} {b : Nat} {bs : List UInt8} {err : Int} {w w' : World} (h : Wx F b bs err w) (hB : Below w.heap.size w w') : Wx F b bs err w' := by
  obtain ⟨h1, v, hb, ho, hF⟩ := h
  exact ⟨h1, v, (hB.block b (lt_of_heap hb)).trans hb, ownsRow_keep ho (fun j ej => hB.block j (ho.lt j ej).2), hF⟩

theorem Wr.below {F : Nat → Prop} {b : Nat} {bs : List UInt8} {err : Int} {w w' : World} (h : Wr F b bs err w) (hB : Below w.heap.size w w') : Wr F b bs err w' := by
  obtain ⟨h1, v, hb, ho, hF⟩ := h
  exact ⟨h1, v, (hB.block b (lt_of_heap hb)).trans hb, ownsRow_keep ho (fun j ej => hB.block j (ho.lt j ej).2), hF⟩

set_option maxHeartbeats 2000000 in
set_option maxRecDepth 100000 in
theorem xnum_body (F : Nat → Prop) (b : Nat) (bs : List UInt8) (v n : Int) (w : World) (h : Wx F b bs 0 w) (hv : 0 ≤ v) (hv2 : v < 18446744073709551616) (hn1 : 1 ≤ n) (hn8 : n ≤ 8) (hl : bs.length + 8 ≤ 140737488355328) :
    Calls Tryd.prog 23 #[.pointer (some ⟨b, 0, none⟩), .int .u64 v, .int .i64 n] w fun r w' => r = .returned (.tuple #[]) ∧ Wx (fun k => F k ∨ w.heap.size ≤ k) b (numW (bs, 0) v n).1 (numW (bs, 0) v n).2 w' ∧ KeptF F w w' := by
  have HWD := Lib.hid (wrong_div v n hn1 hn8 hv hv2)
  have HH := Lib.hid h
  clear h
  go_enter Tryd.func23, Tryd.ntmps23
  go_wp2_with fail
  refine (xfail_calls F b bs 0 0 _ HH.out).mono ?_
  rintro e w1 ⟨rfl, h1, k1⟩
  have H1 := Lib.hid h1
  have K1 := Lib.hid k1
  clear h1 k1
  have hz : (failErr 0 0 != 0) = false := rfl
  rw [hz]
  go_wp2_with fail
  go_loopw [1, 6, 7] (fun s1 s6 s7 wr => ∃ (k : Nat) (v' : Value), (k : Int) ≤ n ∧ s7 = .int .i64 k ∧ s1 = .int .u64 (v / 256 ^ k) ∧ s6 = v' ∧ Hid (wr.ownsRow w1.heap.size 5 1 v' k (Lib.byteCells (leB k v))) ∧ Hid (Below w1.heap.size w1 wr)) (fun _ _ s7 _ => (n - intOf s7).toNat)
  case atStart => exact ⟨0, .slice none 0 0, by omega, rfl, (by rw [Int.pow_zero, Int.ediv_one]), rfl, World.ownsRow_nil _ _ _ _, Below.refl _ _⟩
  case round =>
    obtain ⟨k, v', hk, rfl, rfl, rfl, HO, HB⟩ := hrel
    have hvk0 : 0 ≤ v / 256 ^ k := Int.ediv_nonneg hv (Int.le_of_lt (Int.pow_pos (by decide)))
    have hvk1 : v / 256 ^ k < 18446744073709551616 := Int.lt_of_le_of_lt (Int.ediv_le_self _ hv) hv2
    by_cases hlt : (k : Int) < n
    · have HSN := Lib.hid (leB_snoc k v)
      have HDV : Hid (v / 256 ^ k / 256 = v / 256 ^ (k + 1)) := by
        show _ = _
        rw [Int.pow_succ, Int.ediv_ediv_of_nonneg (Int.le_of_lt (Int.pow_pos (by decide)))]
      generalize v / 256 ^ k = q at hvk0 hvk1 HSN HDV
      obtain ⟨i0, hi, hz0, hz1, hz2⟩ := info_parts Tryd.info5w
      have hll : (Lib.byteCells (leB k v)).length = k := by rw [Lib.byteCells_length, leB_length]
      have HLL := Lib.hid hll
      clear hll
      go_wp2_with (at_builtin; refine wpList_append_lies _ rfl _ _ _ rfl w1.heap.size 5 i0 (.int .u8 0) 1 1 Tryd.underlying24 hi hz0 hz1 hz2 rfl (by decide) u6 k (Lib.byteCells (leB k v)) rfl (World.ownsRow.alloc HO.out _) ⟨wr.heap.size, 0, none⟩ 1 1 [.int .u8 (q % 256)] rfl rfl (World.news_of_block (cs := #[.int .u8 (q % 256)]) (t := 5) (fr := (0, 0)) (heap_alloc_new wr _)) (by simp [Value.oneCell']) (by omega) (by simp only [maxLen]; omega) (by omega) (by have := HB.out.size; simp; omega) _ rfl ?_)
      intro g cap w3 hown hgrow hat hlt3
      have HO2 := Lib.hid hown
      have HB2 := Lib.hid ((al HB.out _).grown hgrow (by have := HB.out.size; simp; omega) (fun j hj => by
        rcases HO.out.2 with ⟨h0, _⟩ | ⟨g', cap', cur, h0, hb', _⟩
        · rw [h0] at hj; simp [Value.ownBlock] at hj
        · rw [h0] at hj
          have : g' = j := by simpa [Value.ownBlock] using hj
          omega))
      clear hown hgrow hat hlt3 hi hz0 hz1 hz2
      go_wp2
      go_roundw
      case rel =>
        refine ⟨k + 1, _, by omega, by go_num, (by rw [← HDV.out]), rfl, ?_, HB2.out⟩
        have e := HO2.out
        show World.ownsRow _ _ _ _ _ _ _
        rw [HSN.out, Lib.byteCells_append, byteCells_one, ← byteCell q hvk0]
        exact e
      case measure => simp [intOf]; omega
    · have hkn : (k : Int) = n := by omega
      have hkn2 : n.toNat = k := by omega
      have HWD2 : Hid (wrongN v n = if v / 256 ^ k = 0 then 0 else 1) := by show _ = _; rw [HWD.out, hkn2]
      have hk8 : k ≤ 8 := by omega
      have hk1 : 1 ≤ k := by omega
      by_cases hq0 : v / 256 ^ k = 0
      · have hwn : wrongN v n = 0 := by rw [HWD2.out, if_pos hq0]
        have HNUM : Hid (numW (bs, 0) v n = (bs ++ leB k v, 0)) := by show _ = _; rw [numW_ok bs v n hwn, hkn2]
        clear hwn hkn hkn2 hvk0 hvk1
        obtain ⟨h1, cur, hb, ho, hFo⟩ := H1.out
        have hB := HB.out
        have hb' : wr.heap[b]? = some (.cells #[cur, .int .i64 0] 41 (0, 0)) := (hB.block b (lt_of_heap hb)).trans hb
        have ho' : wr.ownsRow 0 5 1 cur bs.length (Lib.byteCells bs) := ownsRow_keep ho (fun j ej => hB.block j (ho.lt j ej).2)
        have c0 : wr.cell? ⟨b, 0, none⟩ = some cur := by rw [Lib.cell_of_heap hb']; rfl
        have f0 : wr.frozen? ⟨b, 0, none⟩ = false := Lib.frozen_of_heap hb' 0
        obtain ⟨g, cap, hv', hge, hgl⟩ := World.ownsRow.form HO.out (by omega)
        subst hv'
        have hnews := World.ownsRow.cells HO.out (g := g) rfl
        obtain ⟨i0, hi, hz0, hz1, hz2⟩ := info_parts Tryd.info5w
        have hll : (Lib.byteCells (leB k v)).length = k * 1 := by rw [Lib.byteCells_length, leB_length, Nat.mul_one]
        have HB' := Lib.hid hb'
        have HO' := Lib.hid ho'
        have HFo := Lib.hid hFo
        have HFb := Lib.hid h1
        have HNEWS := Lib.hid hnews
        have HLL := Lib.hid hll
        have hone : Hid (∀ u ∈ Lib.byteCells (leB k v), u.oneCell' = true) := by
          intro u hu
          obtain ⟨c, _, rfl⟩ := List.mem_map.1 hu
          rfl
        clear hb ho hFo h1 hb' ho' hB hnews hll
        go_wp2_with (at_builtin; refine wpList_append_own2 _ rfl _ _ 24 rfl 5 i0 (.int .u8 0) 1 1 Tryd.underlying24 hi hz0 hz1 hz2 rfl (by decide) cur bs.length (Lib.byteCells bs) rfl HO'.out ⟨g, 0, none⟩ k cap (Lib.byteCells (leB k v)) rfl HLL.out HNEWS.out hone.out (by unfold maxLen; omega) (by omega) ?_)
        intro v2 w3 hown hgrow hwh
        have hb3 : w3.heap[b]? = some (.cells #[cur, .int .i64 0] 41 (0, 0)) := by
          rw [hgrow.block b (lt_of_heap HB'.out) (fun e => Lib.ownBlock_ne HO'.out HB'.out (by decide) e.symm)]
          exact HB'.out
        have d0 : w3.cell? ⟨b, 0, none⟩ = some cur := by rw [Lib.cell_of_heap hb3]; rfl
        have g0 : w3.frozen? ⟨b, 0, none⟩ = false := Lib.frozen_of_heap hb3 0
        obtain ⟨A2, c2, rfl⟩ := own_slice w3 hown
        have HB3 := Lib.hid hb3
        have HO3 := Lib.hid hown
        have HG3 := Lib.hid hgrow
        have HWH := Lib.hid hwh
        clear hb3 hown hgrow hwh hi hz0 hz1 hz2 c0 f0
        go_wp2
        go_end0
        rw [HNUM.out]
        have hKr : KeptF F w wr := K1.out.trans ((KeptF.ofBelow HB.out).mono (fun k _ hk => Or.inr (by omega)))
        refine ⟨rfl, ?_, ?_⟩
        · refine Wx.put (.inl HFb.out) HB3.out ?_ ?_
          · have e := HO3.out
            rw [← Lib.byteCells_append] at e
            simp only [List.length_append, leB_length] at e ⊢
            exact e
          · intro j ej
            rcases HWH.out j ej with hj | hj
            · exact .inl (HFo.out j hj)
            · exact .inr (by have := hKr.size; omega)
        · exact KeptF.setCell (hKr.grown HG3.out (fun j ej => .inl (HFo.out j ej))) (.inl HFb.out) _
      · have hwn : wrongN v n = 1 := by rw [HWD2.out, if_neg hq0]
        have HNUM : Hid (numW (bs, 0) v n = (bs, 1)) := by show _ = _; unfold numW; rw [hwn]; rfl
        have hq1 : 0 < v / 256 ^ k := by omega
        have H1r := Lib.hid (H1.out.below HB.out)
        clear hwn hkn hkn2 hq0
        go_wp2_with fail
        refine (xfail_calls F b bs 0 1 _ H1r.out).mono ?_
        rintro e w3 ⟨rfl, h3, k3⟩
        go_wp2
        refine bodyPost_ret (results_none rfl _ _ _) rfl ?_
        rw [HNUM.out]
        have hKr : KeptF F w wr := K1.out.trans ((KeptF.ofBelow HB.out).mono (fun k _ hk => Or.inr (by omega)))
        exact ⟨rfl, h3.mono (fun k hk => .inl hk), hKr.trans (k3.mono (fun k _ hk => .inl hk))⟩

theorem numW_bad (bs : List UInt8) (v n : Int) (h : wrongN v n = 1) : numW (bs, 0) v n = (bs, 1) := by
  unfold numW
  rw [h]
  rfl
theorem numW_err (bs : List UInt8) (err v n : Int) (h : err ≠ 0) : numW (bs, err) v n = (bs, err) := by
  unfold numW failErr
  simp [h]

set_option maxRecDepth 100000 in
theorem xnum_calls (F : Nat → Prop) (b : Nat) (s : List UInt8 × Int) (v n : Int) (w : World) (h : Wx F b s.1 s.2 w) (hv : 0 ≤ v) (hv2 : v < 18446744073709551616) (hl : s.1.length + 8 ≤ 140737488355328) :
    Calls Tryd.prog 23 #[.pointer (some ⟨b, 0, none⟩), .int .u64 v, .int .i64 n] w fun r w' => r = .returned (.tuple #[]) ∧ Wx (fun k => F k ∨ w.heap.size ≤ k) b (numW s v n).1 (numW s v n).2 w' ∧ KeptF F w w' := by
  obtain ⟨bs, err⟩ := s
  simp only at h hl
  by_cases he : err = 0
  · subst he
    by_cases hn1 : n < 1
    · have HN : Hid (numW (bs, 0) v n = (bs, 1)) := numW_bad bs v n (by unfold wrongN; rw [if_pos (.inl hn1)])
      have HH := Lib.hid h
      clear h
      go_enter Tryd.func23, Tryd.ntmps23
      go_wp2_with fail
      refine (xfail_calls F b bs 0 0 _ HH.out).mono ?_
      rintro e w1 ⟨rfl, h1, k1⟩
      have H1 := Lib.hid h1
      have K1 := Lib.hid k1
      clear h1 k1
      have hz : (failErr 0 0 != 0) = false := rfl
      rw [hz]
      go_wp2_with fail
      refine (xfail_calls F b bs 0 1 _ H1.out).mono ?_
      rintro e w2 ⟨rfl, h2, k2⟩
      go_wp2
      refine bodyPost_ret (results_none rfl _ _ _) rfl ?_
      rw [HN.out]
      exact ⟨rfl, h2.mono (fun k hk => .inl hk), K1.out.trans (k2.mono (fun k _ hk => .inl hk))⟩
    by_cases hn8 : 8 < n
    · have HN : Hid (numW (bs, 0) v n = (bs, 1)) := numW_bad bs v n (by unfold wrongN; rw [if_pos (.inr hn8)])
      have HH := Lib.hid h
      clear h
      go_enter Tryd.func23, Tryd.ntmps23
      go_wp2_with fail
      refine (xfail_calls F b bs 0 0 _ HH.out).mono ?_
      rintro e w1 ⟨rfl, h1, k1⟩
      have H1 := Lib.hid h1
      have K1 := Lib.hid k1
      clear h1 k1
      have hz : (failErr 0 0 != 0) = false := rfl
      rw [hz]
      go_wp2_with fail
      refine (xfail_calls F b bs 0 1 _ H1.out).mono ?_
      rintro e w2 ⟨rfl, h2, k2⟩
      go_wp2
      refine bodyPost_ret (results_none rfl _ _ _) rfl ?_
      rw [HN.out]
      exact ⟨rfl, h2.mono (fun k hk => .inl hk), K1.out.trans (k2.mono (fun k _ hk => .inl hk))⟩
    · exact xnum_body F b bs v n w h hv hv2 (by omega) (by omega) hl
  · have HN : Hid (numW (bs, err) v n = (bs, err)) := numW_err bs err v n he
    have hz : (failErr err 0 != 0) = true := by unfold failErr; rw [if_neg he]; exact bne_iff_ne.2 he
    have hfe : failErr err 0 = err := by unfold failErr; rw [if_neg he]
    have HZ := Lib.hid hz
    have HFE := Lib.hid hfe
    have HH := Lib.hid h
    clear h hz hfe he
    go_enter Tryd.func23, Tryd.ntmps23
    go_wp2_with fail
    refine (xfail_calls F b bs err 0 _ HH.out).mono ?_
    rintro e w1 ⟨rfl, h1, k1⟩
    have H1 := Lib.hid h1
    have K1 := Lib.hid k1
    clear h1 k1
    rw [HZ.out]
    go_wp2
    refine bodyPost_ret (results_none rfl _ _ _) rfl ?_
    rw [HN.out]
    have h1 := H1.out
    rw [HFE.out] at h1
    exact ⟨rfl, h1.mono (fun k hk => .inl hk), K1.out⟩

theorem textW_err (bs : List UInt8) (err : Int) (t : List UInt8) (room : Int) (h : err ≠ 0) : textW (bs, err) t room = (bs, err) := by
  unfold textW failErr
  simp [h]
theorem padW_err (bs : List UInt8) (err n : Int) (h : err ≠ 0) : padW (bs, err) n = (bs, err) := by
  unfold padW failErr
  simp [h]

set_option maxHeartbeats 2000000 in
set_option maxRecDepth 100000 in
theorem xtext_calls (F : Nat → Prop) (b : Nat) (s : List UInt8 × Int) (t : ByteArray) (room : Int) (w : World) (h : Wx F b s.1 s.2 w) (hl : s.1.length ≤ 140737488000000) :
    Calls Tryd.prog 26 #[.pointer (some ⟨b, 0, none⟩), .string t, .int .i64 room] w fun r w' => r = .returned (.tuple #[]) ∧ Wx (fun k => F k ∨ w.heap.size ≤ k) b (textW s t.data.toList room).1 (textW s t.data.toList room).2 w' ∧ KeptF F w w' := by
  obtain ⟨bs, err⟩ := s
  simp only at h hl
  by_cases he : err = 0
  · subst he
    have hz : (failErr 0 0 != 0) = false := rfl
    by_cases hr1 : room < 0 ∨ 60000 < room
    · have HN : Hid (textW (bs, 0) t.data.toList room = (bs, 1)) := by show _ = _; unfold textW wrongR; rw [if_pos hr1]; rfl
      have HH := Lib.hid h
      clear h
      by_cases hr2 : room < 0
      · clear hr1
        go_enter Tryd.func26, Tryd.ntmps26
        go_wp2_with fail
        refine (xfail_calls F b bs 0 0 _ HH.out).mono ?_
        rintro e w1 ⟨rfl, h1, k1⟩
        have H1 := Lib.hid h1
        have K1 := Lib.hid k1
        clear h1 k1
        rw [hz]
        go_wp2_with fail
        refine (xfail_calls F b bs 0 1 _ H1.out).mono ?_
        rintro e w2 ⟨rfl, h2, k2⟩
        go_wp2
        refine bodyPost_ret (results_none rfl _ _ _) rfl ?_
        rw [HN.out]
        exact ⟨rfl, h2.mono (fun k hk => .inl hk), K1.out.trans (k2.mono (fun k _ hk => .inl hk))⟩
      · have hr3 : 60000 < room := by omega
        clear hr1
        go_enter Tryd.func26, Tryd.ntmps26
        go_wp2_with fail
        refine (xfail_calls F b bs 0 0 _ HH.out).mono ?_
        rintro e w1 ⟨rfl, h1, k1⟩
        have H1 := Lib.hid h1
        have K1 := Lib.hid k1
        clear h1 k1
        rw [hz]
        go_wp2_with fail
        refine (xfail_calls F b bs 0 1 _ H1.out).mono ?_
        rintro e w2 ⟨rfl, h2, k2⟩
        go_wp2
        refine bodyPost_ret (results_none rfl _ _ _) rfl ?_
        rw [HN.out]
        exact ⟨rfl, h2.mono (fun k hk => .inl hk), K1.out.trans (k2.mono (fun k _ hk => .inl hk))⟩
    have hr0 : 0 ≤ room ∧ room ≤ 60000 := by omega
    obtain ⟨hra, hrb⟩ := hr0
    have hw0 : wrongR room = 0 := by unfold wrongR; rw [if_neg hr1]
    clear hr1
    by_cases hlong : room < (t.size : Int)
    · have HN : Hid (textW (bs, 0) t.data.toList room = (bs, 2)) := by
        show _ = _
        unfold textW
        rw [hw0, if_pos (show failErr (bs, (0 : Int)).2 0 = 0 from rfl), toList_length, if_pos hlong]
      have HH := Lib.hid h
      clear h hw0
      go_enter Tryd.func26, Tryd.ntmps26
      go_wp2_with fail
      refine (xfail_calls F b bs 0 0 _ HH.out).mono ?_
      rintro e w1 ⟨rfl, h1, k1⟩
      have H1 := Lib.hid h1
      have K1 := Lib.hid k1
      clear h1 k1
      rw [hz]
      go_wp2_with fail
      refine (xfail_calls F b bs 0 2 _ H1.out).mono ?_
      rintro e w2 ⟨rfl, h2, k2⟩
      go_wp2
      refine bodyPost_ret (results_none rfl _ _ _) rfl ?_
      rw [HN.out]
      exact ⟨rfl, h2.mono (fun k hk => .inl hk), K1.out.trans (k2.mono (fun k _ hk => .inl hk))⟩
    · have HN : Hid (textW (bs, 0) t.data.toList room = (bs ++ leB 2 t.size ++ t.data.toList, 0)) := by
        show _ = _
        unfold textW
        rw [hw0, if_pos (show failErr (bs, (0 : Int)).2 0 = 0 from rfl), toList_length, if_neg hlong]
      have hts : t.size ≤ 60000 := by omega
      have HNU : Hid (numW (bs, 0) t.size 2 = (bs ++ leB 2 t.size, 0)) := numW_ok bs _ 2 (wrong2 _ (by omega) (by omega))
      have hwr : IntKind.u64.wrap (t.size : Int) = t.size := wraps_u64 _ (by omega) (by omega)
      have HH := Lib.hid h
      clear h hw0
      go_enter Tryd.func26, Tryd.ntmps26
      go_wp2_with fail
      refine (xfail_calls F b bs 0 0 _ HH.out).mono ?_
      rintro e w1 ⟨rfl, h1, k1⟩
      have H1 := Lib.hid h1
      have K1 := Lib.hid k1
      clear h1 k1
      rw [hz]
      go_wp2_with fail
      clear hwr
      refine (xnum_calls F b (bs, 0) t.size 2 _ H1.out (by omega) (by omega) (by show bs.length + 8 ≤ _; omega)).mono ?_
      rw [HNU.out]
      rintro e w2 ⟨rfl, h2, k2⟩
      have hll : (bs ++ leB 2 (t.size : Int)).length = bs.length + 2 := by rw [List.length_append, leB_length]
      obtain ⟨h3, cur, hb, ho, hFo⟩ := h2
      have c0 : w2.cell? ⟨b, 0, none⟩ = some cur := by rw [Lib.cell_of_heap hb]; rfl
      have f0 : w2.frozen? ⟨b, 0, none⟩ = false := Lib.frozen_of_heap hb 0
      obtain ⟨i0, hi, hz0, hz1, hz2⟩ := info_parts Tryd.info5w
      have HB := Lib.hid hb
      have HO := Lib.hid ho
      have HFO := Lib.hid hFo
      have H3 := Lib.hid h3
      have K2 := Lib.hid (K1.out.trans (k2.mono (fun k _ hk => .inl hk)))
      have HSZ : Hid (w.heap.size ≤ w1.heap.size) := K1.out.size
      have HLL := Lib.hid hll
      clear hb ho hFo h3 k2 hll
      go_wp2_with (at_builtin; refine wpList_append_own_string2 _ rfl _ _ 24 9 rfl 5 i0 Tryd.underlying24 Tryd.underlying9 hi hz0 hz1 hz2 cur _ _ rfl HO.out t rfl ?c1 ?c2 ?_)
      case c1 => simp only [HLL.out]; unfold maxLen; omega
      case c2 => simp only [HLL.out]; omega
      intro v' w3 hown' hgrow hwh
      have hbk2 : w3.heap[b]? = some (.cells #[cur, .int .i64 0] 41 (0, 0)) := by
        rw [hgrow.block b (lt_of_heap HB.out) (fun e => Lib.ownBlock_ne HO.out HB.out (by decide) e.symm)]
        exact HB.out
      have d0 : w3.cell? ⟨b, 0, none⟩ = some cur := by rw [Lib.cell_of_heap hbk2]; rfl
      have g0 : w3.frozen? ⟨b, 0, none⟩ = false := Lib.frozen_of_heap hbk2 0
      have HB2 := Lib.hid hbk2
      have HG := Lib.hid hgrow
      have HO2 := Lib.hid hown'
      have HWH := Lib.hid hwh
      obtain ⟨A', c', rfl⟩ := own_slice w3 hown'
      clear hbk2 hgrow hown' hi hz0 hz1 hz2 hwh
      go_wp2
      go_end0
      rw [HN.out]
      refine ⟨rfl, ?_, ?_⟩
      · refine Wx.put (.inl (by rcases H3.out with h | h; exact h; exact absurd h (by have := lt_of_heap HB.out; have := H1.out.lt; omega))) HB2.out ?_ ?_
        · have e := HO2.out
          rw [Lib.strCells_eq, ← Lib.byteCells_append] at e
          simp only [List.length_append, toList_length] at e ⊢
          exact e
        · intro j ej
          rcases HWH.out j ej with hj | hj
          · rcases HFO.out j hj with h | h
            · exact .inl h
            · exact .inr (by have := HSZ.out; omega)
          · exact .inr (by have := K2.out.size; omega)
      · refine KeptF.setCell (K2.out.grown HG.out ?_) ?_ _
        · intro k ek
          rcases HFO.out k ek with h | h
          · exact .inl h
          · exact .inr (by have := HSZ.out; omega)
        · rcases H3.out with h | h
          · exact .inl h
          · exact .inr (by have := HSZ.out; show w.heap.size ≤ b; omega)
  · have HN : Hid (textW (bs, err) t.data.toList room = (bs, err)) := textW_err bs err _ room he
    have hz : (failErr err 0 != 0) = true := by unfold failErr; rw [if_neg he]; exact bne_iff_ne.2 he
    have hfe : failErr err 0 = err := by unfold failErr; rw [if_neg he]
    have HZ := Lib.hid hz
    have HFE := Lib.hid hfe
    have HH := Lib.hid h
    clear h hz hfe he
    go_enter Tryd.func26, Tryd.ntmps26
    go_wp2_with fail
    refine (xfail_calls F b bs err 0 _ HH.out).mono ?_
    rintro e w1 ⟨rfl, h1, k1⟩
    have H1 := Lib.hid h1
    have K1 := Lib.hid k1
    clear h1 k1
    rw [HZ.out]
    go_wp2
    refine bodyPost_ret (results_none rfl _ _ _) rfl ?_
    rw [HN.out]
    have h1 := H1.out
    rw [HFE.out] at h1
    exact ⟨rfl, h1.mono (fun k hk => .inl hk), K1.out⟩

theorem xflag_calls (F : Nat → Prop) (b : Nat) (s : List UInt8 × Int) (v : Bool) (w : World) (h : Wx F b s.1 s.2 w) (hl : s.1.length + 8 ≤ 140737488355328) :
    Calls Tryd.prog 28 #[.pointer (some ⟨b, 0, none⟩), .bool v] w fun r w' => r = .returned (.tuple #[]) ∧ Wx (fun k => F k ∨ w.heap.size ≤ k) b (flagW s v).1 (flagW s v).2 w' ∧ KeptF F w w' := by
  cases v
  all_goals
    have HH := Lib.hid h
    clear h
    go_enter Tryd.func28, Tryd.ntmps28
    go_wp2_with fail
    refine (xnum_calls F b s _ 1 _ HH.out (by decide) (by decide) hl).mono ?_
    rintro e w1 ⟨rfl, h1, k1⟩
    go_wp2
    go_end0
    exact ⟨rfl, h1, k1⟩

set_option maxHeartbeats 400000 in
theorem xbytes_calls (F : Nat → Prop) (b : Nat) (s : List UInt8 × Int) (w : World) (h : Wx F b s.1 s.2 w) :
    Calls Tryd.prog 31 #[.pointer (some ⟨b, 0, none⟩)] w fun r w' => r = .returned (.tuple #[.string (bytesW s), .int .i64 s.2]) ∧ ∃ m, w' = w.drewN m := by
  obtain ⟨bs, err⟩ := s
  obtain ⟨hF, v, hb, ho, hk⟩ := h
  have c0 : w.cell? ⟨b, 0, none⟩ = some v := by rw [Lib.cell_of_heap hb]; rfl
  have c1 : w.cell? ⟨b, 1, none⟩ = some (.int .i64 err) := by rw [Lib.cell_of_heap hb]; rfl
  by_cases he : err = 0
  · subst he
    obtain ⟨A, c, rfl⟩ := own_slice w ho
    have hc := own_string (P := Tryd.prog) w (src := 24) (dst := 9) (e := 5) Tryd.underlying24 Tryd.underlying5 Tryd.underlying9 ho
    clear hb ho hk hF
    go_enter Tryd.func31, Tryd.ntmps31
    go_wp2
    go_ret2
    exact ⟨rfl, 0, rfl⟩
  · have he2 : (err != 0) = true := bne_iff_ne.2 he
    have HE := Lib.hid he
    clear hb ho hk hF he
    go_enter Tryd.func31, Tryd.ntmps31
    go_wp2
    go_region
    go_wp2
    go_ret2
    exact ⟨by simp [bytesW, HE.out], 1, rfl⟩

end Go.Proofs.YtpbmclaglkcmoaaDoor
