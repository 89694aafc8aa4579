import Derived.Test.YtpbmclaglkcmoaaDoorFrPut2
import Derived.Test.YtpbmclaglkcmoaaDoorWireR
namespace Go.Proofs.YtpbmclaglkcmoaaDoor
open Go.RowKit
set_option linter.unusedVariables false
set_option linter.unusedSimpArgs false

theorem scF {B b : Nat} {a w : World} (h : Below B a w) (hb : B ≤ b) (o : Nat) (v : Value) : Below B a (w.setCell ⟨b, o, none⟩ v) := h.setCell (p := ⟨b, o, none⟩) hb v
def put8f (W : World) (B : Nat) (v0 v1 v2 v3 v4 v5 v6 v7 : Value) : World := (((((((W.setCell ⟨B, 0, none⟩ v0).setCell ⟨B, 1, none⟩ v1).setCell ⟨B, 2, none⟩ v2).setCell ⟨B, 3, none⟩ v3).setCell ⟨B, 4, none⟩ v4).setCell ⟨B, 5, none⟩ v5).setCell ⟨B, 6, none⟩ v6).setCell ⟨B, 7, none⟩ v7
theorem set_heapf {W : World} {B i : Nat} {K : Array Value} {t : TypeId} {v : Value} (h : W.heap[B]? = some (.cells K t (0, 0))) : (W.setCell ⟨B, i, none⟩ v).heap[B]? = some (.cells (K.setIfInBounds i v) t (0, 0)) := by
  simp [World.setCell, Array.getElem?_modify, h]
theorem put8f_heap {W : World} {B : Nat} {k0 k1 k2 k3 k4 k5 k6 k7 : Value} {t : TypeId} (v0 v1 v2 v3 v4 v5 v6 v7 : Value) (h : W.heap[B]? = some (.cells #[k0, k1, k2, k3, k4, k5, k6, k7] t (0, 0))) : (put8f W B v0 v1 v2 v3 v4 v5 v6 v7).heap[B]? = some (.cells #[v0, v1, v2, v3, v4, v5, v6, v7] t (0, 0)) :=
  (set_heapf (i := 7) (v := v7) (set_heapf (i := 6) (v := v6) (set_heapf (i := 5) (v := v5) (set_heapf (i := 4) (v := v4) (set_heapf (i := 3) (v := v3) (set_heapf (i := 2) (v := v2) (set_heapf (i := 1) (v := v1) (set_heapf (i := 0) (v := v0) h)))))))).trans (by simp)
theorem put8f_below {B : Nat} {a W : World} (h : Below B a W) (v0 v1 v2 v3 v4 v5 v6 v7 : Value) {b : Nat} (hb : B ≤ b) : Below B a (put8f W b v0 v1 v2 v3 v4 v5 v6 v7) :=
  scF (scF (scF (scF (scF (scF (scF (scF h hb _ _) hb _ _) hb _ _) hb _ _) hb _ _) hb _ _) hb _ _) hb _ _
theorem put8f_ne {W : World} {B b : Nat} (hne : b ≠ B) (v0 v1 v2 v3 v4 v5 v6 v7 : Value) : (put8f W B v0 v1 v2 v3 v4 v5 v6 v7).heap[b]? = W.heap[b]? := by
  unfold put8f
  rw [Below.heap_setCell _ _ _ _ hne, Below.heap_setCell _ _ _ _ hne, Below.heap_setCell _ _ _ _ hne, Below.heap_setCell _ _ _ _ hne, Below.heap_setCell _ _ _ _ hne, Below.heap_setCell _ _ _ _ hne, Below.heap_setCell _ _ _ _ hne, Below.heap_setCell _ _ _ _ hne]

/-- Get's memory: a reader, a frame that is being filled, the frame that is handed back, the pointers that are walked. -/
structure GP (w0 : World) (b o p : Nat) (f : Fr) (s : List UInt8 × Int) (W : World) : Prop where
  rd : Rd b s.1 s.2 W
  fo : FC o f W
  fr : FC w0.heap.size zeroF W
  bel : Below w0.heap.size w0 W
  ob : o ≠ b
  ro : w0.heap.size < o
  rb : w0.heap.size < b
  pt : W.heap[p]? = some (.cells #[.pointer (some ⟨o, 2, none⟩), .pointer (some ⟨o, 3, none⟩), .pointer (some ⟨o, 4, none⟩), .pointer (some ⟨o, 5, none⟩)] 103 (0, 0))
  po : p ≠ o
  pb : p ≠ b

section
variable {w0 W W' : World} {b o p : Nat} {f : Fr} {s s' : List UInt8 × Int}
theorem GP.step (h : GP w0 b o p f s W) (hr : Rd b s'.1 s'.2 W') (hk : KeptB b W W') : GP w0 b o p f s' W' :=
  ⟨hr, (hk.block o (lt_of_heap h.fo) h.ob).trans h.fo, (hk.block _ (lt_of_heap h.fr) (by have := h.rb; show ¬ w0.heap.size = b; omega)).trans h.fr, h.bel.trans (hk.below h.bel.size (fun k hk => by have := h.rb; omega)), h.ob, h.ro, h.rb, (hk.block p (lt_of_heap h.pt) h.pb).trans h.pt, h.po, h.pb⟩
theorem GP.set {i : Nat} {v : Value} {f' : Fr} (h : GP w0 b o p f s W) (hf : (#[Value.int .i64 f.fr, .int .i64 f.to, .int .i64 f.mine, .int .i64 f.yours, .int .i64 f.seq, .int .i64 f.ack, .string f.data, .bool f.has]).setIfInBounds i v = #[.int .i64 f'.fr, .int .i64 f'.to, .int .i64 f'.mine, .int .i64 f'.yours, .int .i64 f'.seq, .int .i64 f'.ack, .string f'.data, .bool f'.has]) : GP w0 b o p f' s (W.setCell ⟨o, i, none⟩ v) := by
  refine ⟨(Below.heap_setCell _ _ _ _ (Ne.symm h.ob)).trans h.rd, ?_, (Below.heap_setCell _ _ _ _ (show w0.heap.size ≠ o from Nat.ne_of_lt h.ro)).trans h.fr, scF h.bel (Nat.le_of_lt h.ro) _ _, h.ob, h.ro, h.rb, (Below.heap_setCell _ _ _ _ h.po).trans h.pt, h.po, h.pb⟩
  have := set_heapf (i := i) (v := v) h.fo
  rw [hf] at this
  exact this
theorem FC.z (h : FC o f W) (i : Nat) : W.frozen? ⟨o, i, none⟩ = false := Lib.frozen_of_heap h i
theorem gp_num {n : Int} (h : GP w0 b o p f s W) : Calls Tryd.prog 43 #[.pointer (some ⟨b, 0, none⟩), .int .i64 n] W fun r w' => r = .returned (.int .u64 (rnumR s.1 s.2 n).1) ∧ Hid (GP w0 b o p f (fS s n) w') := by
  refine (rnum_calls b s.1 s.2 n W h.rd).mono ?_
  rintro r w' ⟨e1, e2, e3⟩
  exact ⟨e1, h.step e2 e3⟩
end

theorem fN_bd (s : List UInt8 × Int) (k : Int) : fN s k ≤ 9223372036854775807 := by
  unfold fN wrap64
  omega
theorem raw_ints (l : List UInt8) : intsF (rawF l) := ⟨fN_bd _ _, fN_bd _ _, fN_bd _ _, fN_bd _ _⟩

/-- The frame while it is being filled. -/
def pF (l : List UInt8) (k : Nat) : Fr := ⟨fN (l, 0) 2, fN (q1 l) 2, if 0 < k then fN (q2 l) 8 else 0, if 1 < k then fN (q3 l) 8 else 0, if 2 < k then fN (q4 l) 8 else 0, if 3 < k then fN (q5 l) 8 else 0, ⟨#[]⟩, false⟩
def pQ (l : List UInt8) : Nat → List UInt8 × Int
  | 0 => q2 l
  | 1 => q3 l
  | 2 => q4 l
  | 3 => q5 l
  | _ => q6 l
theorem pQ_succ (l : List UInt8) (k : Nat) (h : k < 4) : pQ l (k + 1) = fS (pQ l k) 8 := by
  match k, h with
  | 0, _ => rfl
  | 1, _ => rfl
  | 2, _ => rfl
  | 3, _ => rfl
theorem GP.put {w0 W : World} {b o p : Nat} {s : List UInt8 × Int} (l : List UInt8) (k : Nat) (h : k < 4) (g : GP w0 b o p (pF l k) s W) : GP w0 b o p (pF l (k + 1)) s (W.setCell ⟨o, 2 + k, none⟩ (.int .i64 (fN (pQ l k) 8))) := by
  refine g.set ?_
  have hk : k = 0 ∨ k = 1 ∨ k = 2 ∨ k = 3 := by omega
  rcases hk with rfl | rfl | rfl | rfl <;> simp [pF, pQ]
theorem FC.some {o : Nat} {f : Fr} {W : World} (h : FC o f W) (i : Nat) (hi : i < 8) : ∃ v, W.cell? ⟨o, i, none⟩ = some v := by
  rw [Lib.cell_of_heap h]
  exact ⟨_, Array.getElem?_eq_getElem hi⟩
theorem GP.ptr {w0 W : World} {b o p : Nat} {f : Fr} {s : List UInt8 × Int} (g : GP w0 b o p f s W) (k : Nat) (h : k < 4) : W.cell? ⟨p, k, none⟩ = some (.pointer (some ⟨o, 2 + k, none⟩)) := by
  rw [Lib.cell_of_heap g.pt]
  match k, h with
  | 0, _ => rfl
  | 1, _ => rfl
  | 2, _ => rfl
  | 3, _ => rfl

theorem pF4 (l : List UInt8) : pF l 4 = ⟨fN (l, 0) 2, fN (q1 l) 2, fN (q2 l) 8, fN (q3 l) 8, fN (q4 l) 8, fN (q5 l) 8, ⟨#[]⟩, false⟩ := by simp [pF]
theorem take_lenF (l : List UInt8) (e : Int) (n : Nat) : (takeR l e n).2.1.length ≤ l.length := by
  unfold takeR
  split
  · simp
  · split <;> simp
theorem rnum_lenF (l : List UInt8) (e n : Int) : (rnumR l e n).2.1.length ≤ l.length := by
  unfold rnumR
  split
  · simp
  · exact take_lenF _ _ _
theorem fS_len (s : List UInt8 × Int) (k : Int) : (fS s k).1.length ≤ s.1.length := rnum_lenF _ _ _
theorem q6_len (l : List UInt8) : (q6 l).1.length ≤ l.length :=
  Nat.le_trans (fS_len _ _) (Nat.le_trans (fS_len _ _) (Nat.le_trans (fS_len _ _) (Nat.le_trans (fS_len _ _) (Nat.le_trans (fS_len _ _) (fS_len (l, 0) 2)))))
theorem q8_len (l : List UInt8) : (q8 l).1.length ≤ l.length := by
  have h7 : (q7 l).1.length ≤ (q6 l).1.length := rnum_lenF _ _ _
  have h8 : (q8 l).1.length ≤ (q7 l).1.length := by
    unfold q8 rtextR
    split
    · simp
    · refine Nat.le_trans (take_lenF _ _ _) ?_
      unfold countR
      split
      · exact rnum_lenF _ _ _
      · exact rnum_lenF _ _ _
  exact Nat.le_trans h8 (Nat.le_trans h7 (q6_len l))

theorem GP.drewN {w0 W : World} {b o p : Nat} {f : Fr} {s : List UInt8 × Int} (h : GP w0 b o p f s W) (m : Nat) : GP w0 b o p f s (W.drewN m) :=
  ⟨h.rd, h.fo, h.fr, ⟨h.bel.os, h.bel.tape, h.bel.output, h.bel.size, h.bel.block⟩, h.ob, h.ro, h.rb, h.pt, h.po, h.pb⟩
theorem bytes_extF {s t : ByteArray} (h : s.data.toList = t.data.toList) : s = t := by
  cases s
  cases t
  simp only [ByteArray.mk.injEq]
  exact Array.toList_inj.1 h

set_option maxHeartbeats 4000000 in
set_option maxRecDepth 100000 in
theorem getF_calls (d : ByteArray) (w : World) (hd : d.size ≤ 140737488355328) :
    Calls Tryd.prog 58 #[.string d] w fun r w' => r = .returned (.tuple #[frA (getF d).1, .int .i64 (getF d).2]) ∧ Below w.heap.size w w' := by
  have HO := Lib.hid (fun W => open_calls d W hd)
  have hlen : (openB d.data.toList).1.length ≤ d.size := by
    have := toList_length d
    unfold openB
    split
    · simp
    · split
      · simp
      · simp
  by_cases h1 : (openB d.data.toList).2 ≠ 0
  · have hg : getF d = (zeroF, (openB d.data.toList).2) := by unfold getF; rw [if_pos h1]
    rw [hg]
    generalize openB d.data.toList = q at HO h1
    obtain ⟨l, e⟩ := q
    simp only at HO h1
    have h1' : (e != 0) = true := bne_iff_ne.2 h1
    clear hg
    go_enter Tryd.func58, Tryd.ntmps58
    go_wp2_with fail
    refine (HO.out _).mono ?_
    rintro r w1 ⟨rfl, hb1⟩
    have hR : FC w.heap.size zeroF w1 := (hb1.block w.heap.size (by simp)).trans (heap_alloc_new w _)
    have HB : Hid (Below w.heap.size w w1) := (al (Below.refl _ w) _).trans (hb1.mono (by simp))
    clear hb1 HO
    obtain ⟨x0, x1, x2, x3, x4, x5, x6, x7⟩ := FC.c hR
    simp only [zeroF] at x0 x1 x2 x3 x4 x5 x6 x7
    have y0 := FC.z hR 0
    have y1 := FC.z hR 1
    have y2 := FC.z hR 2
    have y3 := FC.z hR 3
    have y4 := FC.z hR 4
    have y5 := FC.z hR 5
    have y6 := FC.z hR 6
    have y7 := FC.z hR 7
    have hltB := lt_of_heap hR
    go_wp2_with fail
    have h8 : FC w.heap.size zeroF (put8f w1 w.heap.size (.int .i64 0) (.int .i64 0) (.int .i64 0) (.int .i64 0) (.int .i64 0) (.int .i64 0) (.string ⟨#[]⟩) (.bool false)) := put8f_heap (.int .i64 0) (.int .i64 0) (.int .i64 0) (.int .i64 0) (.int .i64 0) (.int .i64 0) (.string ⟨#[]⟩) (.bool false) hR
    have hB8 := put8f_below HB.out (.int .i64 0) (.int .i64 0) (.int .i64 0) (.int .i64 0) (.int .i64 0) (.int .i64 0) (.string ⟨#[]⟩) (.bool false) (Nat.le_refl _)
    have hw8 : ((((((((w1.setCell ⟨w.heap.size, 0, none⟩ (.int .i64 0)).setCell ⟨w.heap.size, 1, none⟩ (.int .i64 0)).setCell ⟨w.heap.size, 2, none⟩ (.int .i64 0)).setCell ⟨w.heap.size, 3, none⟩ (.int .i64 0)).setCell ⟨w.heap.size, 4, none⟩ (.int .i64 0)).setCell ⟨w.heap.size, 5, none⟩ (.int .i64 0)).setCell ⟨w.heap.size, 6, none⟩ (.string ⟨#[]⟩)).setCell ⟨w.heap.size, 7, none⟩ (.bool false)) = put8f w1 w.heap.size (.int .i64 0) (.int .i64 0) (.int .i64 0) (.int .i64 0) (.int .i64 0) (.int .i64 0) (.string ⟨#[]⟩) (.bool false) := rfl
    rw [hw8]
    generalize put8f w1 w.heap.size (.int .i64 0) (.int .i64 0) (.int .i64 0) (.int .i64 0) (.int .i64 0) (.int .i64 0) (.string ⟨#[]⟩) (.bool false) = W8 at h8 hB8 ⊢
    obtain ⟨r0, r1, r2, r3, r4, r5, r6, r7⟩ := FC.c h8
    have hlt8 := lt_of_heap h8
    clear x0 x1 x2 x3 x4 x5 x6 x7 y0 y1 y2 y3 y4 y5 y6 y7 hw8
    refine bodyPost_ret (v := .tuple #[frA zeroF, .int .i64 e]) (by simp [results, Tryd.results58, go_sem, r0, r1, r2, r3, r4, r5, r6, r7, hlt8, frA, zeroF]) rfl ⟨rfl, hB8⟩
  · have h1e : (openB d.data.toList).2 = 0 := Decidable.not_not.1 h1
    generalize hq : openB d.data.toList = q at *
    obtain ⟨l, e⟩ := q
    simp only at h1e hlen
    subst h1e
    clear h1
    have HLN := Lib.hid hlen
    have HQ := Lib.hid hq
    clear hlen hq
    have hbl : (bstr l).data.toList = l := rfl
    have HBL := Lib.hid hbl
    clear hbl
    have hsz : (bstr l).size ≤ 281474976710656 := by have := HLN.out; show l.length ≤ _; omega
    go_enter Tryd.func58, Tryd.ntmps58
    go_wp2_with fail
    refine (HO.out _).mono ?_
    rintro r w1 ⟨rfl, hb1⟩
    have hR : FC w.heap.size zeroF w1 := (hb1.block w.heap.size (by simp)).trans (heap_alloc_new w _)
    have HR := Lib.hid hR
    have HB : Hid (Below w.heap.size w w1) := (al (Below.refl _ w) _).trans (hb1.mono (by simp))
    clear hb1 HO hR
    go_wp2_with fail
    refine (newReader_calls (bstr l) _ hsz).mono ?_
    rintro r w2 ⟨b, rfl, hb, hrd, hb2⟩
    rw [HBL.out] at hrd
    have HRD := Lib.hid hrd
    have HR2 : Hid (FC w.heap.size zeroF w2) := (hb2.block _ (lt_of_heap HR.out)).trans HR.out
    have HB2 := Lib.hid (bl HB.out hb2)
    have HLT := Lib.hid (Nat.lt_of_lt_of_le (lt_of_heap HR.out) hb)
    clear hb2 hrd HB HR hb
    go_wp2_with fail
    refine (rnum_calls b l 0 2 _ HRD.out).mono ?_
    rintro r w3 ⟨rfl, hr3, hk3⟩
    have HR3 : Hid (FC w.heap.size zeroF w3) := (hk3.block _ (lt_of_heap HR2.out) (by have := HLT.out; show ¬ w.heap.size = b; omega)).trans HR2.out
    have HB3 := Lib.hid (HB2.out.trans (hk3.below HB2.out.size (fun k hk => by have := HLT.out; omega)))
    have HRD3 := Lib.hid hr3
    clear hr3 hk3 HR2 HB2 HRD
    go_wp2_with fail
    refine (rnum_calls b _ _ 2 _ HRD3.out).mono ?_
    rintro r w4 ⟨rfl, hr4, hk4⟩
    have HR4 : Hid (FC w.heap.size zeroF w4) := (hk4.block _ (lt_of_heap HR3.out) (by have := HLT.out; show ¬ w.heap.size = b; omega)).trans HR3.out
    have HB4 := Lib.hid (HB3.out.trans (hk4.below HB3.out.size (fun k hk => by have := HLT.out; omega)))
    have HRD4 : Hid (Rd b (q2 l).1 (q2 l).2 w4) := hr4
    have hblt : b < w4.heap.size := lt_of_heap HRD4.out
    clear hr4 hk4 HR3 HB3 HRD3
    go_wp2_with fail
    have HG0 : Hid (GP w b w4.heap.size (w4.heap.size + 1) (pF l 0) (pQ l 0) ((w4.alloc (.cells #[.int .i64 (fN (l, 0) 2), .int .i64 (fN (q1 l) 2), .int .i64 0, .int .i64 0, .int .i64 0, .int .i64 0, .string ⟨#[]⟩, .bool false] 79)).alloc (.cells #[.pointer (some ⟨w4.heap.size, 2, none⟩), .pointer (some ⟨w4.heap.size, 3, none⟩), .pointer (some ⟨w4.heap.size, 4, none⟩), .pointer (some ⟨w4.heap.size, 5, none⟩)] 103))) := by
      have hr := lt_of_heap HR4.out
      refine ⟨?_, ?_, ?_, al (al HB4.out _) _, by omega, hr, HLT.out, ?_, by omega, by omega⟩
      · exact (Lib.alloc_old _ _ b (by simp; omega)).trans ((Lib.alloc_old _ _ b hblt).trans HRD4.out)
      · exact (Lib.alloc_old _ _ _ (by simp)).trans (heap_alloc_new w4 _)
      · exact (Lib.alloc_old _ _ _ (by simp; omega)).trans ((Lib.alloc_old _ _ _ hr).trans HR4.out)
      · exact (show w4.heap.size + 1 = (w4.alloc (.cells #[.int .i64 (fN (l, 0) 2), .int .i64 (fN (q1 l) 2), .int .i64 0, .int .i64 0, .int .i64 0, .int .i64 0, .string ⟨#[]⟩, .bool false] 79)).heap.size by simp) ▸ heap_alloc_new _ _
    clear HRD4 HR4 HB4 HLT hblt
    generalize w4.heap.size = o at HG0 ⊢
    generalize o + 1 = p at HG0 ⊢
    go_loopw [37] (fun s37 wr => ∃ k : Nat, k ≤ 4 ∧ s37 = .int .i64 k ∧ Hid (GP w b o p (pF l k) (pQ l k) wr)) (fun s37 _ => 4 - (intOf s37).toNat)
    case atStart => exact ⟨0, by omega, rfl, HG0.out⟩
    case round =>
      clear HG0
      obtain ⟨k, hk, rfl, HG⟩ := hrel
      by_cases hlt : k < 4
      · have c0 := HG.out.ptr k hlt
        have hk0 : (0 : Int) ≤ (k : Int) := Int.natCast_nonneg _
        have hk1 : (k : Int) < 4 := by omega
        have hnx := pQ_succ l k hlt
        have HNX := Lib.hid hnx
        clear hnx
        go_wp2_with fail
        refine (gp_num (n := 8) HG.out).mono ?_
        rintro e w5 ⟨rfl, HG5⟩
        have y0 := HG5.out.fo.z (2 + k)
        obtain ⟨vk, hvk⟩ := HG5.out.fo.some (2 + k) (by omega)
        have hlo := lt_of_heap HG5.out.fo
        have HG6 := Lib.hid (GP.put l k hlt HG5.out)
        rw [← HNX.out] at HG6
        clear HG HG5 c0
        go_wp2
        go_roundw
        case rel => exact ⟨k + 1, by omega, by go_num, HG6⟩
        case measure => simp [intOf]; omega
      · have hke : k = 4 := by omega
        subst hke
        clear hlt hk
        have hg4 := HG.out
        rw [pF4] at hg4
        have HG4 : Hid (GP w b o p ⟨fN (l, 0) 2, fN (q1 l) 2, fN (q2 l) 8, fN (q3 l) 8, fN (q4 l) 8, fN (q5 l) 8, ⟨#[]⟩, false⟩ (q6 l) wr) := hg4
        clear hg4 HG
        have hq8 := q8_len l
        have HQ8 : Hid ((q8 l).1.length ≤ 9223372036854775807) := by have := HLN.out; show _ ≤ _; omega
        clear hq8
        go_wp2_with fail
        refine (rflag_calls b _ _ _ HG4.out.rd).mono ?_
        rintro e w6 ⟨rfl, hr6, hk6⟩
        have HG6 := Lib.hid (GP.step (s' := q7 l) HG4.out hr6 hk6)
        have HG7 := Lib.hid (HG6.out.set (i := 7) (v := .bool (flagR (q6 l).1 (q6 l).2).1) (f' := ⟨fN (l, 0) 2, fN (q1 l) 2, fN (q2 l) 8, fN (q3 l) 8, fN (q4 l) 8, fN (q5 l) 8, ⟨#[]⟩, (flagR (q6 l).1 (q6 l).2).1⟩) (by simp))
        obtain ⟨_, _, _, _, _, _, _, x7⟩ := FC.c HG6.out.fo
        have y7 := FC.z HG6.out.fo 7
        have hlo := lt_of_heap HG6.out.fo
        clear hr6 hk6 HG4 HG6
        simp only at x7
        go_wp2_with fail
        clear x7 y7 hlo
        refine (rtext_calls b _ _ 3000 _ HG7.out.rd).mono ?_
        rintro e w8 ⟨rfl, hr8, hk8⟩
        have HG8 := Lib.hid (GP.step (s' := q8 l) HG7.out hr8 hk8)
        have HG9 : Hid (GP w b o p (rawF l) (q8 l) _) := Lib.hid (HG8.out.set (i := 6) (v := .string (bstr (rtextR (q7 l).1 (q7 l).2 3000).1)) (f' := rawF l) (by simp [rawF]))
        obtain ⟨_, _, _, _, _, _, x6, _⟩ := FC.c HG8.out.fo
        have y6 := FC.z HG8.out.fo 6
        have hlo := lt_of_heap HG8.out.fo
        clear hr8 hk8 HG7 HG8
        simp only at x6
        go_wp2_with fail
        clear x6 y6 hlo
        refine (rend_calls b _ _ _ HG9.out.rd HQ8.out).mono ?_
        rintro e w9 ⟨rfl, m, rfl⟩
        have hga : Hid (GP w b o p (rawF l) (q8 l) _) := Lib.hid (HG9.out.drewN m)
        have HGA := hga
        clear HG9 hga
        by_cases he : endF l = 0
        · have he' : endR (q8 l).1 (q8 l).2 = 0 := he
          rw [he']
          have HPUT := Lib.hid (fun W => putF_calls (rawF l) W (raw_ints l))
          have hgf : getF d = if againF d (rawF l) = true then (rawF l, 0) else (zeroF, 4) := by
            unfold getF
            rw [HQ.out]
            simp only
            rw [if_neg (by simp), if_neg (by simp [he])]
          have HGF := Lib.hid hgf
          clear hgf he he'
          generalize rawF l = f at HGA HPUT HGF
          obtain ⟨a0, a1, a2, a3, a4, a5, fd, has⟩ := f
          obtain ⟨c0, c1, c2, c3, c4, c5, c6, c7⟩ := FC.c HGA.out.fo
          simp only at c0 c1 c2 c3 c4 c5 c6 c7
          have hol := lt_of_heap HGA.out.fo
          unfold frA at HPUT
          go_wp2_with fail
          clear c0 c1 c2 c3 c4 c5 c6 c7 hol
          refine (HPUT.out _).mono ?_
          rintro e w10 ⟨rfl, hb10⟩
          have HBL10 := Lib.hid (bl HGA.out.bel hb10)
          have hR : FC w.heap.size zeroF w10 := (hb10.block _ (lt_of_heap HGA.out.fr)).trans HGA.out.fr
          have hO : FC o ⟨a0, a1, a2, a3, a4, a5, fd, has⟩ w10 := (hb10.block _ (lt_of_heap HGA.out.fo)).trans HGA.out.fo
          clear hb10 HGA HPUT
          unfold againF at HGF
          generalize putF ⟨a0, a1, a2, a3, a4, a5, fd, has⟩ = pr at HGF ⊢
          obtain ⟨s2, e2⟩ := pr
          simp only at HGF ⊢
          obtain ⟨x0, x1, x2, x3, x4, x5, x6, x7⟩ := FC.c hR
          simp only [zeroF] at x0 x1 x2 x3 x4 x5 x6 x7
          have y0 := FC.z hR 0
          have y1 := FC.z hR 1
          have y2 := FC.z hR 2
          have y3 := FC.z hR 3
          have y4 := FC.z hR 4
          have y5 := FC.z hR 5
          have y6 := FC.z hR 6
          have y7 := FC.z hR 7
          have hltB := lt_of_heap hR
          by_cases he2 : e2 = 0
          · subst he2
            by_cases hs : s2 = d
            · have hbb : (s2.toList == d.toList) = true := by rw [hs]; exact beq_self_eq_true _
              have hgd : getF d = (⟨a0, a1, a2, a3, a4, a5, fd, has⟩, 0) := by rw [HGF.out, if_pos (by simp [hs])]
              have HGD := Lib.hid hgd
              clear HGF hgd hs
              obtain ⟨c0, c1, c2, c3, c4, c5, c6, c7⟩ := FC.c hO
              simp only at c0 c1 c2 c3 c4 c5 c6 c7
              have hol := lt_of_heap hO
              go_wp2_with fail
              have h8 : FC w.heap.size ⟨a0, a1, a2, a3, a4, a5, fd, has⟩ (put8f w10 w.heap.size (.int .i64 a0) (.int .i64 a1) (.int .i64 a2) (.int .i64 a3) (.int .i64 a4) (.int .i64 a5) (.string fd) (.bool has)) := put8f_heap (.int .i64 a0) (.int .i64 a1) (.int .i64 a2) (.int .i64 a3) (.int .i64 a4) (.int .i64 a5) (.string fd) (.bool has) hR
              have hB8 := put8f_below HBL10.out (.int .i64 a0) (.int .i64 a1) (.int .i64 a2) (.int .i64 a3) (.int .i64 a4) (.int .i64 a5) (.string fd) (.bool has) (Nat.le_refl _)
              have hw8 : ((((((((w10.setCell ⟨w.heap.size, 0, none⟩ (.int .i64 a0)).setCell ⟨w.heap.size, 1, none⟩ (.int .i64 a1)).setCell ⟨w.heap.size, 2, none⟩ (.int .i64 a2)).setCell ⟨w.heap.size, 3, none⟩ (.int .i64 a3)).setCell ⟨w.heap.size, 4, none⟩ (.int .i64 a4)).setCell ⟨w.heap.size, 5, none⟩ (.int .i64 a5)).setCell ⟨w.heap.size, 6, none⟩ (.string fd)).setCell ⟨w.heap.size, 7, none⟩ (.bool has)) = put8f w10 w.heap.size (.int .i64 a0) (.int .i64 a1) (.int .i64 a2) (.int .i64 a3) (.int .i64 a4) (.int .i64 a5) (.string fd) (.bool has) := rfl
              rw [hw8]
              generalize put8f w10 w.heap.size (.int .i64 a0) (.int .i64 a1) (.int .i64 a2) (.int .i64 a3) (.int .i64 a4) (.int .i64 a5) (.string fd) (.bool has) = W8 at h8 hB8 ⊢
              obtain ⟨r0, r1, r2, r3, r4, r5, r6, r7⟩ := FC.c h8
              have hlt8 := lt_of_heap h8
              clear x0 x1 x2 x3 x4 x5 x6 x7 y0 y1 y2 y3 y4 y5 y6 y7 hw8
              simp only at r0 r1 r2 r3 r4 r5 r6 r7
              refine bodyPost_ret (v := .tuple #[frA ⟨a0, a1, a2, a3, a4, a5, fd, has⟩, .int .i64 0]) (by simp [results, Tryd.results58, go_sem, r0, r1, r2, r3, r4, r5, r6, r7, hlt8, frA, zeroF]) rfl ⟨by rw [HGD.out] <;> rfl, hB8⟩
            · have hbb : (s2.toList == d.toList) = false := by
                rw [ByteArray.toList_eq, ByteArray.toList_eq]
                exact beq_eq_false_iff_ne.2 (fun h => hs (bytes_extF h))
              have hgd : getF d = (zeroF, 4) := by rw [HGF.out, if_neg (by simp [hs])]
              have HGD := Lib.hid hgd
              clear HGF hgd hs hO
              go_wp2_with fail
              have h8 : FC w.heap.size zeroF (put8f w10 w.heap.size (.int .i64 0) (.int .i64 0) (.int .i64 0) (.int .i64 0) (.int .i64 0) (.int .i64 0) (.string ⟨#[]⟩) (.bool false)) := put8f_heap (.int .i64 0) (.int .i64 0) (.int .i64 0) (.int .i64 0) (.int .i64 0) (.int .i64 0) (.string ⟨#[]⟩) (.bool false) hR
              have hB8 := put8f_below HBL10.out (.int .i64 0) (.int .i64 0) (.int .i64 0) (.int .i64 0) (.int .i64 0) (.int .i64 0) (.string ⟨#[]⟩) (.bool false) (Nat.le_refl _)
              have hw8 : ((((((((w10.setCell ⟨w.heap.size, 0, none⟩ (.int .i64 0)).setCell ⟨w.heap.size, 1, none⟩ (.int .i64 0)).setCell ⟨w.heap.size, 2, none⟩ (.int .i64 0)).setCell ⟨w.heap.size, 3, none⟩ (.int .i64 0)).setCell ⟨w.heap.size, 4, none⟩ (.int .i64 0)).setCell ⟨w.heap.size, 5, none⟩ (.int .i64 0)).setCell ⟨w.heap.size, 6, none⟩ (.string ⟨#[]⟩)).setCell ⟨w.heap.size, 7, none⟩ (.bool false)) = put8f w10 w.heap.size (.int .i64 0) (.int .i64 0) (.int .i64 0) (.int .i64 0) (.int .i64 0) (.int .i64 0) (.string ⟨#[]⟩) (.bool false) := rfl
              rw [hw8]
              generalize put8f w10 w.heap.size (.int .i64 0) (.int .i64 0) (.int .i64 0) (.int .i64 0) (.int .i64 0) (.int .i64 0) (.string ⟨#[]⟩) (.bool false) = W8 at h8 hB8 ⊢
              obtain ⟨r0, r1, r2, r3, r4, r5, r6, r7⟩ := FC.c h8
              have hlt8 := lt_of_heap h8
              clear x0 x1 x2 x3 x4 x5 x6 x7 y0 y1 y2 y3 y4 y5 y6 y7 hw8
              refine bodyPost_ret (v := .tuple #[frA zeroF, .int .i64 4]) (by simp [results, Tryd.results58, go_sem, r0, r1, r2, r3, r4, r5, r6, r7, hlt8, frA, zeroF]) rfl ⟨by rw [HGD.out] <;> rfl, hB8⟩
          · have hbb : (e2 != 0) = true := bne_iff_ne.2 he2
            have hgd : getF d = (zeroF, 4) := by rw [HGF.out, if_neg (by simp [he2])]
            have HGD := Lib.hid hgd
            clear HGF hgd hO
            go_wp2_with fail
            have h8 : FC w.heap.size zeroF (put8f w10 w.heap.size (.int .i64 0) (.int .i64 0) (.int .i64 0) (.int .i64 0) (.int .i64 0) (.int .i64 0) (.string ⟨#[]⟩) (.bool false)) := put8f_heap (.int .i64 0) (.int .i64 0) (.int .i64 0) (.int .i64 0) (.int .i64 0) (.int .i64 0) (.string ⟨#[]⟩) (.bool false) hR
            have hB8 := put8f_below HBL10.out (.int .i64 0) (.int .i64 0) (.int .i64 0) (.int .i64 0) (.int .i64 0) (.int .i64 0) (.string ⟨#[]⟩) (.bool false) (Nat.le_refl _)
            have hw8 : ((((((((w10.setCell ⟨w.heap.size, 0, none⟩ (.int .i64 0)).setCell ⟨w.heap.size, 1, none⟩ (.int .i64 0)).setCell ⟨w.heap.size, 2, none⟩ (.int .i64 0)).setCell ⟨w.heap.size, 3, none⟩ (.int .i64 0)).setCell ⟨w.heap.size, 4, none⟩ (.int .i64 0)).setCell ⟨w.heap.size, 5, none⟩ (.int .i64 0)).setCell ⟨w.heap.size, 6, none⟩ (.string ⟨#[]⟩)).setCell ⟨w.heap.size, 7, none⟩ (.bool false)) = put8f w10 w.heap.size (.int .i64 0) (.int .i64 0) (.int .i64 0) (.int .i64 0) (.int .i64 0) (.int .i64 0) (.string ⟨#[]⟩) (.bool false) := rfl
            rw [hw8]
            generalize put8f w10 w.heap.size (.int .i64 0) (.int .i64 0) (.int .i64 0) (.int .i64 0) (.int .i64 0) (.int .i64 0) (.string ⟨#[]⟩) (.bool false) = W8 at h8 hB8 ⊢
            obtain ⟨r0, r1, r2, r3, r4, r5, r6, r7⟩ := FC.c h8
            have hlt8 := lt_of_heap h8
            clear x0 x1 x2 x3 x4 x5 x6 x7 y0 y1 y2 y3 y4 y5 y6 y7 hw8
            refine bodyPost_ret (v := .tuple #[frA zeroF, .int .i64 4]) (by simp [results, Tryd.results58, go_sem, r0, r1, r2, r3, r4, r5, r6, r7, hlt8, frA, zeroF]) rfl ⟨by rw [HGD.out] <;> rfl, hB8⟩
        · have hgd : getF d = (zeroF, endF l) := by
            unfold getF
            rw [HQ.out]
            simp only
            rw [if_neg (by simp), if_pos he]
          have HGD := Lib.hid hgd
          have he'' : endR (q8 l).1 (q8 l).2 = endF l := rfl
          rw [he'']
          generalize endF l = e at he HGD ⊢
          have hbb : (e != 0) = true := bne_iff_ne.2 he
          have hR := HGA.out.fr
          have HGA_bel := Lib.hid HGA.out.bel
          obtain ⟨x0, x1, x2, x3, x4, x5, x6, x7⟩ := FC.c hR
          simp only [zeroF] at x0 x1 x2 x3 x4 x5 x6 x7
          have y0 := FC.z hR 0
          have y1 := FC.z hR 1
          have y2 := FC.z hR 2
          have y3 := FC.z hR 3
          have y4 := FC.z hR 4
          have y5 := FC.z hR 5
          have y6 := FC.z hR 6
          have y7 := FC.z hR 7
          have hltB := lt_of_heap hR
          clear he'' hgd HGA
          go_wp2_with fail
          have h8 : FC w.heap.size zeroF (put8f ((w8.setCell ⟨o, 6, none⟩ (.string (bstr (rtextR (q7 l).1 (q7 l).2 3000).1))).drewN m) w.heap.size (.int .i64 0) (.int .i64 0) (.int .i64 0) (.int .i64 0) (.int .i64 0) (.int .i64 0) (.string ⟨#[]⟩) (.bool false)) := put8f_heap (.int .i64 0) (.int .i64 0) (.int .i64 0) (.int .i64 0) (.int .i64 0) (.int .i64 0) (.string ⟨#[]⟩) (.bool false) hR
          have hB8 := put8f_below HGA_bel.out (.int .i64 0) (.int .i64 0) (.int .i64 0) (.int .i64 0) (.int .i64 0) (.int .i64 0) (.string ⟨#[]⟩) (.bool false) (Nat.le_refl _)
          have hw8 : ((((((((((w8.setCell ⟨o, 6, none⟩ (.string (bstr (rtextR (q7 l).1 (q7 l).2 3000).1))).drewN m).setCell ⟨w.heap.size, 0, none⟩ (.int .i64 0)).setCell ⟨w.heap.size, 1, none⟩ (.int .i64 0)).setCell ⟨w.heap.size, 2, none⟩ (.int .i64 0)).setCell ⟨w.heap.size, 3, none⟩ (.int .i64 0)).setCell ⟨w.heap.size, 4, none⟩ (.int .i64 0)).setCell ⟨w.heap.size, 5, none⟩ (.int .i64 0)).setCell ⟨w.heap.size, 6, none⟩ (.string ⟨#[]⟩)).setCell ⟨w.heap.size, 7, none⟩ (.bool false)) = put8f ((w8.setCell ⟨o, 6, none⟩ (.string (bstr (rtextR (q7 l).1 (q7 l).2 3000).1))).drewN m) w.heap.size (.int .i64 0) (.int .i64 0) (.int .i64 0) (.int .i64 0) (.int .i64 0) (.int .i64 0) (.string ⟨#[]⟩) (.bool false) := rfl
          rw [hw8]
          generalize put8f ((w8.setCell ⟨o, 6, none⟩ (.string (bstr (rtextR (q7 l).1 (q7 l).2 3000).1))).drewN m) w.heap.size (.int .i64 0) (.int .i64 0) (.int .i64 0) (.int .i64 0) (.int .i64 0) (.int .i64 0) (.string ⟨#[]⟩) (.bool false) = W8 at h8 hB8 ⊢
          obtain ⟨r0, r1, r2, r3, r4, r5, r6, r7⟩ := FC.c h8
          have hlt8 := lt_of_heap h8
          clear x0 x1 x2 x3 x4 x5 x6 x7 y0 y1 y2 y3 y4 y5 y6 y7 hw8
          refine bodyPost_ret (v := .tuple #[frA zeroF, .int .i64 e]) (by simp [results, Tryd.results58, go_sem, r0, r1, r2, r3, r4, r5, r6, r7, hlt8, frA, zeroF]) rfl ⟨by rw [HGD.out] <;> rfl, hB8⟩

end Go.Proofs.YtpbmclaglkcmoaaDoor
