import Derived.Test.YtpbmclaglkcmoaaDoorOps
namespace Go.Proofs.YtpbmclaglkcmoaaDoor
open Go.RowKit
set_option linter.unusedVariables false
set_option linter.unusedSimpArgs false

/-- What a pad's number is made to be. -/
def padN (n : Int) : Int := if n ≤ 900 then n else if n ≤ 60000 then 900 else if n ≤ 70000 then n else 70000

def opW (s : List UInt8 × Int) (o : OpR) : List UInt8 × Int :=
  if o.k = 1 then numW s o.v o.n else if o.k = 2 then intW s o.n else if o.k = 3 then textW s o.s.data.toList o.n else if o.k = 4 then flagW s (decide (0 < o.n)) else padW s (padN o.n)

theorem numW_len (s : List UInt8 × Int) (v n : Int) : (numW s v n).1.length ≤ s.1.length + 8 := by
  by_cases h : failErr s.2 (wrongN v n) = 0
  · obtain ⟨_, h2⟩ := failErr_zero h
    unfold numW
    rw [if_pos h]
    simp only [List.length_append, leB_length]
    unfold wrongN at h2
    split at h2
    · cases h2
    · omega
  · unfold numW
    rw [if_neg h]
    exact Nat.le_add_right _ _

theorem textW_len (s : List UInt8 × Int) (t : List UInt8) (n : Int) : (textW s t n).1.length ≤ s.1.length + t.length + 2 := by
  unfold textW
  split
  · split
    · simp only
      omega
    · simp only [List.length_append, leB_length]
      omega
  · simp only
    omega

theorem padW_len (s : List UInt8 × Int) (n : Int) (k : Nat) (hs : s.1.length ≤ 900 + 310 * k) : (padW s (padN n)).1.length ≤ 900 + 310 * k := by
  unfold padW
  split
  · rename_i h
    obtain ⟨_, h2⟩ := failErr_zero h
    unfold padE at h2
    simp only [List.length_append, List.length_replicate]
    split at h2
    · cases h2
    · rename_i h3
      have : padN n ≤ 900 := by
        unfold padN at h3 ⊢
        split
        · assumption
        · split
          · omega
          · split <;> omega
      omega
  · exact hs

theorem opW_len (s : List UInt8 × Int) (o : OpR) (k : Nat) (hs : s.1.length ≤ 900 + 310 * k) (ho : o.s.size ≤ 300) : (opW s o).1.length ≤ 900 + 310 * (k + 1) := by
  unfold opW
  split
  · have := numW_len s o.v o.n
    omega
  split
  · have := numW_len s (IntKind.u64.wrap o.n) 8
    unfold intW
    omega
  split
  · have := textW_len s o.s.data.toList o.n
    rw [toList_length] at this
    omega
  split
  · have := numW_len s (if decide (0 < o.n) = true then 1 else 0) 1
    unfold flagW
    omega
  · have := padW_len s o.n k hs
    omega

theorem Two.drewN {B bw bx : Nat} {s t : List UInt8 × Int} {w : World} (h : Two B bw bx s t w) (m : Nat) : Two B bw bx s t (w.drewN m) := h.below (dr w m _ (Nat.le_refl _))

theorem Tryd.infoWr : (Tryd.prog.info? 27).map (fun i => (i.zero, i.size, i.bytes)) = some (some (.agg #[.slice none 0 0, .int .i64 0]), 2, 32) := by kernel_rfl
theorem neq_same (b : Nat) (W : World) : (binOp .neq 23 (.pointer (some ⟨b, 0, none⟩)) (.pointer (some ⟨b, 0, none⟩))).run Tryd.prog W = .ok (.bool false) W := by
  obtain ⟨i0, hi, _⟩ := info_parts Tryd.infoWr
  exact Lib.run_neq_ptr_same W ⟨b, 0, none⟩ Tryd.underlying23 hi

set_option maxHeartbeats 8000000 in
set_option maxRecDepth 100000 in
theorem wireWrites_calls (A : Option Addr) (c : Nat) (l : List OpR) (w : World) (hc : l.length ≤ c) (hm : c ≤ maxLen) (hI : Ops w A l) (hw : ∀ x ∈ l, (Lit.int .i64 x.k).wf = true ∧ (Lit.int .i64 x.n).wf = true ∧ (Lit.int .u64 x.v).wf = true ∧ x.s.size ≤ maxLen) :
    Calls Tryd.prog 4 #[.slice A l.length c] w fun r w' => r = .returned (.bool true) ∧ Below w.heap.size w w' := by
  have hmx : c ≤ 9223372036854775807 := by simpa only [maxLen] using hm
  have HL := Lib.hid (fun W (h : Ops W A l) => light_calls A c l W h hc (by omega) (fun x hx => by have := (hw x hx).2.2.2; simpa only [maxLen] using this))
  have HI := Lib.hid hI
  have HW := Lib.hid hw
  have HT := Lib.hid (Two.fresh w)
  have HB0 : Hid (Below w.heap.size w ((w.alloc (.cells #[.slice none 0 0, .int .i64 0] 27)).alloc (.cells #[.slice none 0 0, .int .i64 0] 41))) := al (al (Below.refl _ w) _) _
  clear hI hw hm
  go_enter Tryd.func4, Tryd.ntmps4
  go_wp2_with fail
  refine (HL.out _ HI.out).mono ?_
  rintro r w1 ⟨lb, hlp, rfl, rfl⟩
  cases lb with
  | false =>
    clear hlp
    go_wp2_with fail
    refine (wireAlive_calls _).mono ?_
    rintro r w1 ⟨rfl, b1⟩
    go_wp2
    go_ret
    exact ⟨rfl, b1⟩
  | true =>
    obtain ⟨hl60, hs300⟩ := hlp rfl
    have HS3 := Lib.hid hs300
    clear hlp hs300
    go_wp2_with fail
    go_loopw [5] (fun s5 wr => ∃ (k : Nat) (s : List UInt8 × Int), k ≤ l.length ∧ s5 = .int .i64 k ∧ Hid (s.1.length ≤ 900 + 310 * k) ∧ Hid (Two w.heap.size w.heap.size (w.heap.size + 1) s s wr) ∧ Hid (Below w.heap.size w wr)) (fun s5 _ => l.length - (intOf s5).toNat)
    case atStart => exact ⟨0, ([], 0), Nat.zero_le _, rfl, Nat.zero_le _, HT.out, HB0.out⟩
    case round =>
      obtain ⟨k, s, hk, rfl, HLEN, HTW, HB⟩ := hrel
      by_cases hlt : k < l.length
      · obtain ⟨b, o, rfl, c0, c1, c2, c3⟩ := (HI.out.below HB.out) k hlt
        obtain ⟨hwk, hwn, hwv, hws⟩ := HW.out l[k] (List.getElem_mem hlt)
        have hs3 := HS3.out l[k] (List.getElem_mem hlt)
        have HOL := Lib.hid (opW_len s l[k] k HLEN.out hs3)
        have hlen : s.1.length ≤ 20000 := by have := HLEN.out; omega
        generalize hop : l[k] = op at c0 c1 c2 c3 hwk hwn hwv hws hs3 HOL
        obtain ⟨kd, n, v, sb⟩ := op
        clear hop
        simp only at c0 c1 c2 c3 hwk hwn hwv hws hs3
        have hn0 := Go.bounds_i64 hwn
        have hv0 := Go.bounds_u64 hwv
        clear hwk hwn hwv hws
        have HTW2 := Lib.hid (HTW.out.two2 (.cells #[.int .i64 kd, .int .i64 n, .int .u64 v, .string sb] 43))
        have HOB : Hid ((wr.alloc (.cells #[.int .i64 kd, .int .i64 n, .int .u64 v, .string sb] 43)).heap[wr.heap.size]? = some (.cells #[.int .i64 kd, .int .i64 n, .int .u64 v, .string sb] 43 (0, 0))) := heap_alloc_new wr _
        have HB2 := Lib.hid (al HB.out (.cells #[.int .i64 kd, .int .i64 n, .int .u64 v, .string sb] 43))
        have hz : w.heap.size + 1 < wr.heap.size := by
          obtain ⟨F, hF⟩ := HTW.out.snd
          exact hF.lt
        by_cases h1 : kd = 1
        · subst h1
          have HOP : Hid (opW s ⟨1, n, v, sb⟩ = numW s v n) := by
            show _ = _
            unfold opW
            simp
          go_wp2_with fail
          refine (two_w HTW2.out HB2.out.size (s' := numW s v n) (fun F hF => num_calls F w.heap.size s v n _ hF (by omega) (by omega) (by omega))).mono ?_
          rintro r w4 ⟨rfl, t4, b4, o4⟩
          have H4 := Lib.hid t4
          have B4 := Lib.hid (HB2.out.trans b4)
          have ho4 := o4.trans HOB.out
          have d0 : w4.cell? ⟨wr.heap.size, 0, none⟩ = some (.int .i64 1) := by rw [Lib.cell_of_heap ho4]; rfl
          have d1 : w4.cell? ⟨wr.heap.size, 1, none⟩ = some (.int .i64 n) := by rw [Lib.cell_of_heap ho4]; rfl
          have d2 : w4.cell? ⟨wr.heap.size, 2, none⟩ = some (.int .u64 v) := by rw [Lib.cell_of_heap ho4]; rfl
          have d3 : w4.cell? ⟨wr.heap.size, 3, none⟩ = some (.string sb) := by rw [Lib.cell_of_heap ho4]; rfl
          clear t4 b4 o4 ho4
          go_wp2_with fail
          refine (two_x H4.out B4.out.size (t' := numW s v n) (fun F hF => xnum_calls F (w.heap.size + 1) s v n _ hF (by omega) (by omega) (by omega))).mono ?_
          rintro r w5 ⟨rfl, t5, b5, _⟩
          have H5 := Lib.hid t5.two
          have B5 := Lib.hid (B4.out.trans b5)
          clear t5 b5 d0 d1 d2 d3
          have HSL := Lib.hid (show (numW s v n).1.length ≤ 900 + 310 * (k + 1) from by have := HOL.out; rw [HOP.out] at this; exact this)
          generalize numW s v n = s' at H5 HSL
          obtain ⟨F5, hF5⟩ := H5.out.fst
          have HF5 := Lib.hid hF5
          clear hF5
          go_wp2_with fail
          refine (bytes_calls F5 w.heap.size s' _ HF5.out).mono ?_
          rintro r w6 ⟨rfl, m6, rfl⟩
          have H6 := Lib.hid (H5.out.drewN m6)
          have B6 := Lib.hid (B5.out.trans (dr w5 m6 _ B5.out.size))
          obtain ⟨F6, hF6⟩ := H6.out.snd
          have HF6 := Lib.hid hF6
          clear hF6
          go_wp2_with fail
          refine (xbytes_calls F6 (w.heap.size + 1) s' _ HF6.out).mono ?_
          rintro r w7 ⟨rfl, m7, rfl⟩
          have H7 := Lib.hid (H5.out.drewN (m6 + m7))
          have B7 := Lib.hid (B5.out.trans (dr w5 (m6 + m7) _ B5.out.size))
          clear HF5 HF6 H5 H6 B5 B6 B4 H4
          have hneq := neq_same w.heap.size
          go_wp2
          go_roundw
          case rel => exact ⟨k + 1, s', by omega, by go_num, HSL.out, H7.out, B7.out⟩
          case measure => simp [intOf]; omega
        have k1 : (kd == 1) = false := beq_eq_false_iff_ne.2 h1
        by_cases h2 : kd = 2
        · subst h2
          clear h1 k1
          have HOP : Hid (opW s ⟨2, n, v, sb⟩ = intW s n) := by
            show _ = _
            unfold opW
            simp
          go_wp2_with fail
          refine (two_w HTW2.out HB2.out.size (s' := intW s n) (fun F hF => int_calls F w.heap.size s n _ hF (by omega))).mono ?_
          rintro r w4 ⟨rfl, t4, b4, o4⟩
          have H4 := Lib.hid t4
          have B4 := Lib.hid (HB2.out.trans b4)
          have ho4 := o4.trans HOB.out
          have d0 : w4.cell? ⟨wr.heap.size, 0, none⟩ = some (.int .i64 2) := by rw [Lib.cell_of_heap ho4]; rfl
          have d1 : w4.cell? ⟨wr.heap.size, 1, none⟩ = some (.int .i64 n) := by rw [Lib.cell_of_heap ho4]; rfl
          have d2 : w4.cell? ⟨wr.heap.size, 2, none⟩ = some (.int .u64 v) := by rw [Lib.cell_of_heap ho4]; rfl
          have d3 : w4.cell? ⟨wr.heap.size, 3, none⟩ = some (.string sb) := by rw [Lib.cell_of_heap ho4]; rfl
          clear t4 b4 o4 ho4
          go_wp2_with fail
          refine (two_x H4.out B4.out.size (t' := intW s n) (fun F hF => xnum_calls F (w.heap.size + 1) s (IntKind.u64.wrap n) 8 _ hF (u64_bd n).1 (u64_bd n).2 (by omega))).mono ?_
          rintro r w5 ⟨rfl, t5, b5, _⟩
          have H5 := Lib.hid t5.two
          have B5 := Lib.hid (B4.out.trans b5)
          clear t5 b5 d0 d1 d2 d3
          have HSL := Lib.hid (show (intW s n).1.length ≤ 900 + 310 * (k + 1) from by have := HOL.out; rw [HOP.out] at this; exact this)
          generalize intW s n = s' at H5 HSL
          obtain ⟨F5, hF5⟩ := H5.out.fst
          have HF5 := Lib.hid hF5
          clear hF5
          go_wp2_with fail
          refine (bytes_calls F5 w.heap.size s' _ HF5.out).mono ?_
          rintro r w6 ⟨rfl, m6, rfl⟩
          have H6 := Lib.hid (H5.out.drewN m6)
          have B6 := Lib.hid (B5.out.trans (dr w5 m6 _ B5.out.size))
          obtain ⟨F6, hF6⟩ := H6.out.snd
          have HF6 := Lib.hid hF6
          clear hF6
          go_wp2_with fail
          refine (xbytes_calls F6 (w.heap.size + 1) s' _ HF6.out).mono ?_
          rintro r w7 ⟨rfl, m7, rfl⟩
          have H7 := Lib.hid (H5.out.drewN (m6 + m7))
          have B7 := Lib.hid (B5.out.trans (dr w5 (m6 + m7) _ B5.out.size))
          clear HF5 HF6 H5 H6 B5 B6 B4 H4
          have hneq := neq_same w.heap.size
          go_wp2
          go_roundw
          case rel => exact ⟨k + 1, s', by omega, by go_num, HSL.out, H7.out, B7.out⟩
          case measure => simp [intOf]; omega
        have k2 : (kd == 2) = false := beq_eq_false_iff_ne.2 h2
        by_cases h3 : kd = 3
        · subst h3
          clear h1 k1 h2 k2
          have HOP : Hid (opW s ⟨3, n, v, sb⟩ = textW s sb.data.toList n) := by
            show _ = _
            unfold opW
            simp
          go_wp2_with fail
          refine (two_w HTW2.out HB2.out.size (s' := textW s sb.data.toList n) (fun F hF => text_calls F w.heap.size s sb n _ hF (by omega))).mono ?_
          rintro r w4 ⟨rfl, t4, b4, o4⟩
          have H4 := Lib.hid t4
          have B4 := Lib.hid (HB2.out.trans b4)
          have ho4 := o4.trans HOB.out
          have d0 : w4.cell? ⟨wr.heap.size, 0, none⟩ = some (.int .i64 3) := by rw [Lib.cell_of_heap ho4]; rfl
          have d1 : w4.cell? ⟨wr.heap.size, 1, none⟩ = some (.int .i64 n) := by rw [Lib.cell_of_heap ho4]; rfl
          have d2 : w4.cell? ⟨wr.heap.size, 2, none⟩ = some (.int .u64 v) := by rw [Lib.cell_of_heap ho4]; rfl
          have d3 : w4.cell? ⟨wr.heap.size, 3, none⟩ = some (.string sb) := by rw [Lib.cell_of_heap ho4]; rfl
          clear t4 b4 o4 ho4
          go_wp2_with fail
          refine (two_x H4.out B4.out.size (t' := textW s sb.data.toList n) (fun F hF => xtext_calls F (w.heap.size + 1) s sb n _ hF (by omega))).mono ?_
          rintro r w5 ⟨rfl, t5, b5, _⟩
          have H5 := Lib.hid t5.two
          have B5 := Lib.hid (B4.out.trans b5)
          clear t5 b5 d0 d1 d2 d3
          have HSL := Lib.hid (show (textW s sb.data.toList n).1.length ≤ 900 + 310 * (k + 1) from by have := HOL.out; rw [HOP.out] at this; exact this)
          generalize textW s sb.data.toList n = s' at H5 HSL
          obtain ⟨F5, hF5⟩ := H5.out.fst
          have HF5 := Lib.hid hF5
          clear hF5
          go_wp2_with fail
          refine (bytes_calls F5 w.heap.size s' _ HF5.out).mono ?_
          rintro r w6 ⟨rfl, m6, rfl⟩
          have H6 := Lib.hid (H5.out.drewN m6)
          have B6 := Lib.hid (B5.out.trans (dr w5 m6 _ B5.out.size))
          obtain ⟨F6, hF6⟩ := H6.out.snd
          have HF6 := Lib.hid hF6
          clear hF6
          go_wp2_with fail
          refine (xbytes_calls F6 (w.heap.size + 1) s' _ HF6.out).mono ?_
          rintro r w7 ⟨rfl, m7, rfl⟩
          have H7 := Lib.hid (H5.out.drewN (m6 + m7))
          have B7 := Lib.hid (B5.out.trans (dr w5 (m6 + m7) _ B5.out.size))
          clear HF5 HF6 H5 H6 B5 B6 B4 H4
          have hneq := neq_same w.heap.size
          go_wp2
          go_roundw
          case rel => exact ⟨k + 1, s', by omega, by go_num, HSL.out, H7.out, B7.out⟩
          case measure => simp [intOf]; omega
        have k3 : (kd == 3) = false := beq_eq_false_iff_ne.2 h3
        by_cases h4 : kd = 4
        · subst h4
          clear h1 k1 h2 k2 h3 k3
          by_cases hn : 0 < n
          · have hdn : decide (0 < n) = true := decide_eq_true hn
            have HOP : Hid (opW s ⟨4, n, v, sb⟩ = flagW s true) := by
              show _ = _
              unfold opW
              simp [hdn]
            clear hdn
            go_wp2_with fail
            refine (two_w HTW2.out HB2.out.size (s' := flagW s true) (fun F hF => flag_calls F w.heap.size s true _ hF (by omega))).mono ?_
            rintro r w4 ⟨rfl, t4, b4, o4⟩
            have H4 := Lib.hid t4
            have B4 := Lib.hid (HB2.out.trans b4)
            have ho4 := o4.trans HOB.out
            have d0 : w4.cell? ⟨wr.heap.size, 0, none⟩ = some (.int .i64 4) := by rw [Lib.cell_of_heap ho4]; rfl
            have d1 : w4.cell? ⟨wr.heap.size, 1, none⟩ = some (.int .i64 n) := by rw [Lib.cell_of_heap ho4]; rfl
            have d2 : w4.cell? ⟨wr.heap.size, 2, none⟩ = some (.int .u64 v) := by rw [Lib.cell_of_heap ho4]; rfl
            have d3 : w4.cell? ⟨wr.heap.size, 3, none⟩ = some (.string sb) := by rw [Lib.cell_of_heap ho4]; rfl
            clear t4 b4 o4 ho4
            go_wp2_with fail
            refine (two_x H4.out B4.out.size (t' := flagW s true) (fun F hF => xflag_calls F (w.heap.size + 1) s true _ hF (by omega))).mono ?_
            rintro r w5 ⟨rfl, t5, b5, _⟩
            have H5 := Lib.hid t5.two
            have B5 := Lib.hid (B4.out.trans b5)
            clear t5 b5 d0 d1 d2 d3
            have HSL := Lib.hid (show (flagW s true).1.length ≤ 900 + 310 * (k + 1) from by have := HOL.out; rw [HOP.out] at this; exact this)
            generalize flagW s true = s' at H5 HSL
            obtain ⟨F5, hF5⟩ := H5.out.fst
            have HF5 := Lib.hid hF5
            clear hF5
            go_wp2_with fail
            refine (bytes_calls F5 w.heap.size s' _ HF5.out).mono ?_
            rintro r w6 ⟨rfl, m6, rfl⟩
            have H6 := Lib.hid (H5.out.drewN m6)
            have B6 := Lib.hid (B5.out.trans (dr w5 m6 _ B5.out.size))
            obtain ⟨F6, hF6⟩ := H6.out.snd
            have HF6 := Lib.hid hF6
            clear hF6
            go_wp2_with fail
            refine (xbytes_calls F6 (w.heap.size + 1) s' _ HF6.out).mono ?_
            rintro r w7 ⟨rfl, m7, rfl⟩
            have H7 := Lib.hid (H5.out.drewN (m6 + m7))
            have B7 := Lib.hid (B5.out.trans (dr w5 (m6 + m7) _ B5.out.size))
            clear HF5 HF6 H5 H6 B5 B6 B4 H4
            have hneq := neq_same w.heap.size
            go_wp2
            go_roundw
            case rel => exact ⟨k + 1, s', by omega, by go_num, HSL.out, H7.out, B7.out⟩
            case measure => simp [intOf]; omega
          · have hdn : decide (0 < n) = false := decide_eq_false hn
            have HOP : Hid (opW s ⟨4, n, v, sb⟩ = flagW s false) := by
              show _ = _
              unfold opW
              simp [hdn]
            go_wp2_with fail
            refine (two_w HTW2.out HB2.out.size (s' := flagW s false) (fun F hF => flag_calls F w.heap.size s false _ hF (by omega))).mono ?_
            rintro r w4 ⟨rfl, t4, b4, o4⟩
            have H4 := Lib.hid t4
            have B4 := Lib.hid (HB2.out.trans b4)
            have ho4 := o4.trans HOB.out
            have d0 : w4.cell? ⟨wr.heap.size, 0, none⟩ = some (.int .i64 4) := by rw [Lib.cell_of_heap ho4]; rfl
            have d1 : w4.cell? ⟨wr.heap.size, 1, none⟩ = some (.int .i64 n) := by rw [Lib.cell_of_heap ho4]; rfl
            have d2 : w4.cell? ⟨wr.heap.size, 2, none⟩ = some (.int .u64 v) := by rw [Lib.cell_of_heap ho4]; rfl
            have d3 : w4.cell? ⟨wr.heap.size, 3, none⟩ = some (.string sb) := by rw [Lib.cell_of_heap ho4]; rfl
            clear t4 b4 o4 ho4
            go_wp2_with fail
            refine (two_x H4.out B4.out.size (t' := flagW s false) (fun F hF => xflag_calls F (w.heap.size + 1) s false _ hF (by omega))).mono ?_
            rintro r w5 ⟨rfl, t5, b5, _⟩
            have H5 := Lib.hid t5.two
            have B5 := Lib.hid (B4.out.trans b5)
            clear t5 b5 d0 d1 d2 d3
            have HSL := Lib.hid (show (flagW s false).1.length ≤ 900 + 310 * (k + 1) from by have := HOL.out; rw [HOP.out] at this; exact this)
            generalize flagW s false = s' at H5 HSL
            obtain ⟨F5, hF5⟩ := H5.out.fst
            have HF5 := Lib.hid hF5
            clear hF5
            go_wp2_with fail
            refine (bytes_calls F5 w.heap.size s' _ HF5.out).mono ?_
            rintro r w6 ⟨rfl, m6, rfl⟩
            have H6 := Lib.hid (H5.out.drewN m6)
            have B6 := Lib.hid (B5.out.trans (dr w5 m6 _ B5.out.size))
            obtain ⟨F6, hF6⟩ := H6.out.snd
            have HF6 := Lib.hid hF6
            clear hF6
            go_wp2_with fail
            refine (xbytes_calls F6 (w.heap.size + 1) s' _ HF6.out).mono ?_
            rintro r w7 ⟨rfl, m7, rfl⟩
            have H7 := Lib.hid (H5.out.drewN (m6 + m7))
            have B7 := Lib.hid (B5.out.trans (dr w5 (m6 + m7) _ B5.out.size))
            clear HF5 HF6 H5 H6 B5 B6 B4 H4
            have hneq := neq_same w.heap.size
            go_wp2
            go_roundw
            case rel => exact ⟨k + 1, s', by omega, by go_num, HSL.out, H7.out, B7.out⟩
            case measure => simp [intOf]; omega
        have k4 : (kd == 4) = false := beq_eq_false_iff_ne.2 h4
        have hopk : Hid (opW s ⟨kd, n, v, sb⟩ = padW s (padN n)) := by
          show _ = _
          unfold opW
          simp only
          rw [if_neg h1, if_neg h2, if_neg h3, if_neg h4]
        clear h1 h2 h3 h4
        by_cases hp1 : n ≤ 900
        · have HPN : Hid (padN n = n) := by show _ = _; unfold padN; rw [if_pos hp1]
          have hm1 : min n 70000 = n := by omega
          have hm2 : min n 900 = n := by omega
          have hm3 : n ≤ 60000 := by omega
          have HOP : Hid (opW s ⟨kd, n, v, sb⟩ = padW s n) := by
            show _ = _
            rw [hopk.out, HPN.out]
          go_wp2_with fail
          refine (two_w HTW2.out HB2.out.size (s' := padW s n) (fun F hF => pad_calls F w.heap.size s n _ hF)).mono ?_
          rintro r w4 ⟨rfl, t4, b4, o4⟩
          have H4 := Lib.hid t4
          have B4 := Lib.hid (HB2.out.trans b4)
          have ho4 := o4.trans HOB.out
          have d0 : w4.cell? ⟨wr.heap.size, 0, none⟩ = some (.int .i64 kd) := by rw [Lib.cell_of_heap ho4]; rfl
          have d1 : w4.cell? ⟨wr.heap.size, 1, none⟩ = some (.int .i64 n) := by rw [Lib.cell_of_heap ho4]; rfl
          have d2 : w4.cell? ⟨wr.heap.size, 2, none⟩ = some (.int .u64 v) := by rw [Lib.cell_of_heap ho4]; rfl
          have d3 : w4.cell? ⟨wr.heap.size, 3, none⟩ = some (.string sb) := by rw [Lib.cell_of_heap ho4]; rfl
          clear t4 b4 o4 ho4
          go_wp2_with fail
          refine (two_x H4.out B4.out.size (t' := padW s n) (fun F hF => xpad_calls F (w.heap.size + 1) s n _ hF)).mono ?_
          rintro r w5 ⟨rfl, t5, b5, _⟩
          have H5 := Lib.hid t5.two
          have B5 := Lib.hid (B4.out.trans b5)
          clear t5 b5 d0 d1 d2 d3
          have HSL := Lib.hid (show (padW s n).1.length ≤ 900 + 310 * (k + 1) from by have := HOL.out; rw [HOP.out] at this; exact this)
          generalize padW s n = s' at H5 HSL
          obtain ⟨F5, hF5⟩ := H5.out.fst
          have HF5 := Lib.hid hF5
          clear hF5
          go_wp2_with fail
          refine (bytes_calls F5 w.heap.size s' _ HF5.out).mono ?_
          rintro r w6 ⟨rfl, m6, rfl⟩
          have H6 := Lib.hid (H5.out.drewN m6)
          have B6 := Lib.hid (B5.out.trans (dr w5 m6 _ B5.out.size))
          obtain ⟨F6, hF6⟩ := H6.out.snd
          have HF6 := Lib.hid hF6
          clear hF6
          go_wp2_with fail
          refine (xbytes_calls F6 (w.heap.size + 1) s' _ HF6.out).mono ?_
          rintro r w7 ⟨rfl, m7, rfl⟩
          have H7 := Lib.hid (H5.out.drewN (m6 + m7))
          have B7 := Lib.hid (B5.out.trans (dr w5 (m6 + m7) _ B5.out.size))
          clear HF5 HF6 H5 H6 B5 B6 B4 H4
          have hneq := neq_same w.heap.size
          go_wp2
          go_roundw
          case rel => exact ⟨k + 1, s', by omega, by go_num, HSL.out, H7.out, B7.out⟩
          case measure => simp [intOf]; omega
        by_cases hp2 : n ≤ 60000
        · have HPN : Hid (padN n = 900) := by show _ = _; unfold padN; rw [if_neg hp1, if_pos hp2]
          have hm1 : min n 70000 = n := by omega
          have hm2 : min n 900 = 900 := by omega
          have HOP : Hid (opW s ⟨kd, n, v, sb⟩ = padW s 900) := by
            show _ = _
            rw [hopk.out, HPN.out]
          go_wp2_with fail
          refine (two_w HTW2.out HB2.out.size (s' := padW s 900) (fun F hF => pad_calls F w.heap.size s 900 _ hF)).mono ?_
          rintro r w4 ⟨rfl, t4, b4, o4⟩
          have H4 := Lib.hid t4
          have B4 := Lib.hid (HB2.out.trans b4)
          have ho4 := o4.trans HOB.out
          have d0 : w4.cell? ⟨wr.heap.size, 0, none⟩ = some (.int .i64 kd) := by rw [Lib.cell_of_heap ho4]; rfl
          have d1 : w4.cell? ⟨wr.heap.size, 1, none⟩ = some (.int .i64 n) := by rw [Lib.cell_of_heap ho4]; rfl
          have d2 : w4.cell? ⟨wr.heap.size, 2, none⟩ = some (.int .u64 v) := by rw [Lib.cell_of_heap ho4]; rfl
          have d3 : w4.cell? ⟨wr.heap.size, 3, none⟩ = some (.string sb) := by rw [Lib.cell_of_heap ho4]; rfl
          clear t4 b4 o4 ho4
          go_wp2_with fail
          refine (two_x H4.out B4.out.size (t' := padW s 900) (fun F hF => xpad_calls F (w.heap.size + 1) s 900 _ hF)).mono ?_
          rintro r w5 ⟨rfl, t5, b5, _⟩
          have H5 := Lib.hid t5.two
          have B5 := Lib.hid (B4.out.trans b5)
          clear t5 b5 d0 d1 d2 d3
          have HSL := Lib.hid (show (padW s 900).1.length ≤ 900 + 310 * (k + 1) from by have := HOL.out; rw [HOP.out] at this; exact this)
          generalize padW s 900 = s' at H5 HSL
          obtain ⟨F5, hF5⟩ := H5.out.fst
          have HF5 := Lib.hid hF5
          clear hF5
          go_wp2_with fail
          refine (bytes_calls F5 w.heap.size s' _ HF5.out).mono ?_
          rintro r w6 ⟨rfl, m6, rfl⟩
          have H6 := Lib.hid (H5.out.drewN m6)
          have B6 := Lib.hid (B5.out.trans (dr w5 m6 _ B5.out.size))
          obtain ⟨F6, hF6⟩ := H6.out.snd
          have HF6 := Lib.hid hF6
          clear hF6
          go_wp2_with fail
          refine (xbytes_calls F6 (w.heap.size + 1) s' _ HF6.out).mono ?_
          rintro r w7 ⟨rfl, m7, rfl⟩
          have H7 := Lib.hid (H5.out.drewN (m6 + m7))
          have B7 := Lib.hid (B5.out.trans (dr w5 (m6 + m7) _ B5.out.size))
          clear HF5 HF6 H5 H6 B5 B6 B4 H4
          have hneq := neq_same w.heap.size
          go_wp2
          go_roundw
          case rel => exact ⟨k + 1, s', by omega, by go_num, HSL.out, H7.out, B7.out⟩
          case measure => simp [intOf]; omega
        by_cases hp3 : n ≤ 70000
        · have HPN : Hid (padN n = n) := by show _ = _; unfold padN; rw [if_neg hp1, if_neg hp2, if_pos hp3]
          have hm1 : min n 70000 = n := by omega
          have HOP : Hid (opW s ⟨kd, n, v, sb⟩ = padW s n) := by
            show _ = _
            rw [hopk.out, HPN.out]
          go_wp2_with fail
          refine (two_w HTW2.out HB2.out.size (s' := padW s n) (fun F hF => pad_calls F w.heap.size s n _ hF)).mono ?_
          rintro r w4 ⟨rfl, t4, b4, o4⟩
          have H4 := Lib.hid t4
          have B4 := Lib.hid (HB2.out.trans b4)
          have ho4 := o4.trans HOB.out
          have d0 : w4.cell? ⟨wr.heap.size, 0, none⟩ = some (.int .i64 kd) := by rw [Lib.cell_of_heap ho4]; rfl
          have d1 : w4.cell? ⟨wr.heap.size, 1, none⟩ = some (.int .i64 n) := by rw [Lib.cell_of_heap ho4]; rfl
          have d2 : w4.cell? ⟨wr.heap.size, 2, none⟩ = some (.int .u64 v) := by rw [Lib.cell_of_heap ho4]; rfl
          have d3 : w4.cell? ⟨wr.heap.size, 3, none⟩ = some (.string sb) := by rw [Lib.cell_of_heap ho4]; rfl
          clear t4 b4 o4 ho4
          go_wp2_with fail
          refine (two_x H4.out B4.out.size (t' := padW s n) (fun F hF => xpad_calls F (w.heap.size + 1) s n _ hF)).mono ?_
          rintro r w5 ⟨rfl, t5, b5, _⟩
          have H5 := Lib.hid t5.two
          have B5 := Lib.hid (B4.out.trans b5)
          clear t5 b5 d0 d1 d2 d3
          have HSL := Lib.hid (show (padW s n).1.length ≤ 900 + 310 * (k + 1) from by have := HOL.out; rw [HOP.out] at this; exact this)
          generalize padW s n = s' at H5 HSL
          obtain ⟨F5, hF5⟩ := H5.out.fst
          have HF5 := Lib.hid hF5
          clear hF5
          go_wp2_with fail
          refine (bytes_calls F5 w.heap.size s' _ HF5.out).mono ?_
          rintro r w6 ⟨rfl, m6, rfl⟩
          have H6 := Lib.hid (H5.out.drewN m6)
          have B6 := Lib.hid (B5.out.trans (dr w5 m6 _ B5.out.size))
          obtain ⟨F6, hF6⟩ := H6.out.snd
          have HF6 := Lib.hid hF6
          clear hF6
          go_wp2_with fail
          refine (xbytes_calls F6 (w.heap.size + 1) s' _ HF6.out).mono ?_
          rintro r w7 ⟨rfl, m7, rfl⟩
          have H7 := Lib.hid (H5.out.drewN (m6 + m7))
          have B7 := Lib.hid (B5.out.trans (dr w5 (m6 + m7) _ B5.out.size))
          clear HF5 HF6 H5 H6 B5 B6 B4 H4
          have hneq := neq_same w.heap.size
          go_wp2
          go_roundw
          case rel => exact ⟨k + 1, s', by omega, by go_num, HSL.out, H7.out, B7.out⟩
          case measure => simp [intOf]; omega
        · have HPN : Hid (padN n = 70000) := by show _ = _; unfold padN; rw [if_neg hp1, if_neg hp2, if_neg hp3]
          have hm1 : min n 70000 = 70000 := by omega
          have HOP : Hid (opW s ⟨kd, n, v, sb⟩ = padW s 70000) := by
            show _ = _
            rw [hopk.out, HPN.out]
          go_wp2_with fail
          refine (two_w HTW2.out HB2.out.size (s' := padW s 70000) (fun F hF => pad_calls F w.heap.size s 70000 _ hF)).mono ?_
          rintro r w4 ⟨rfl, t4, b4, o4⟩
          have H4 := Lib.hid t4
          have B4 := Lib.hid (HB2.out.trans b4)
          have ho4 := o4.trans HOB.out
          have d0 : w4.cell? ⟨wr.heap.size, 0, none⟩ = some (.int .i64 kd) := by rw [Lib.cell_of_heap ho4]; rfl
          have d1 : w4.cell? ⟨wr.heap.size, 1, none⟩ = some (.int .i64 n) := by rw [Lib.cell_of_heap ho4]; rfl
          have d2 : w4.cell? ⟨wr.heap.size, 2, none⟩ = some (.int .u64 v) := by rw [Lib.cell_of_heap ho4]; rfl
          have d3 : w4.cell? ⟨wr.heap.size, 3, none⟩ = some (.string sb) := by rw [Lib.cell_of_heap ho4]; rfl
          clear t4 b4 o4 ho4
          go_wp2_with fail
          refine (two_x H4.out B4.out.size (t' := padW s 70000) (fun F hF => xpad_calls F (w.heap.size + 1) s 70000 _ hF)).mono ?_
          rintro r w5 ⟨rfl, t5, b5, _⟩
          have H5 := Lib.hid t5.two
          have B5 := Lib.hid (B4.out.trans b5)
          clear t5 b5 d0 d1 d2 d3
          have HSL := Lib.hid (show (padW s 70000).1.length ≤ 900 + 310 * (k + 1) from by have := HOL.out; rw [HOP.out] at this; exact this)
          generalize padW s 70000 = s' at H5 HSL
          obtain ⟨F5, hF5⟩ := H5.out.fst
          have HF5 := Lib.hid hF5
          clear hF5
          go_wp2_with fail
          refine (bytes_calls F5 w.heap.size s' _ HF5.out).mono ?_
          rintro r w6 ⟨rfl, m6, rfl⟩
          have H6 := Lib.hid (H5.out.drewN m6)
          have B6 := Lib.hid (B5.out.trans (dr w5 m6 _ B5.out.size))
          obtain ⟨F6, hF6⟩ := H6.out.snd
          have HF6 := Lib.hid hF6
          clear hF6
          go_wp2_with fail
          refine (xbytes_calls F6 (w.heap.size + 1) s' _ HF6.out).mono ?_
          rintro r w7 ⟨rfl, m7, rfl⟩
          have H7 := Lib.hid (H5.out.drewN (m6 + m7))
          have B7 := Lib.hid (B5.out.trans (dr w5 (m6 + m7) _ B5.out.size))
          clear HF5 HF6 H5 H6 B5 B6 B4 H4
          have hneq := neq_same w.heap.size
          go_wp2
          go_roundw
          case rel => exact ⟨k + 1, s', by omega, by go_num, HSL.out, H7.out, B7.out⟩
          case measure => simp [intOf]; omega
      · clear HI HW HS3
        go_wp2_with fail
        refine (wireAlive_calls _).mono ?_
        rintro r w4 ⟨rfl, b4⟩
        go_wp2
        go_ret
        exact ⟨rfl, HB.out.trans (b4.mono HB.out.size)⟩

end Go.Proofs.YtpbmclaglkcmoaaDoor
