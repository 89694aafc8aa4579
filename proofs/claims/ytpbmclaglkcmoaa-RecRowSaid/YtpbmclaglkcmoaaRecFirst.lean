import Derived.Test.YtpbmclaglkcmoaaRecPut2
namespace Go.Proofs.Ytpbmclaglkcmoaa
open Go.RowKit
set_option linter.unusedVariables false
set_option linter.unusedSimpArgs false

theorem rnum_take (b n : Nat) (l : List UInt8) (w : World) (h : Rd b l 0 w) (h1 : 1 ≤ n) (h8 : n ≤ 8) (hl : n ≤ l.length) :
    Calls Try.prog 73 #[.pointer (some ⟨b, 0, none⟩), .int .i64 n] w fun r w' => r = .returned (.int .u64 (leV (l.take n))) ∧ Rd b (l.drop n) 0 w' ∧ KeptB b w w' := by
  have h2 := rnum_calls b l 0 n w h
  have e : rnumR l 0 n = (leV (l.take n), l.drop n, 0) := by
    unfold rnumR takeR
    rw [if_neg (by omega), if_neg (by simp), Int.toNat_natCast, if_neg (by omega)]
  rw [e] at h2
  exact h2

structure FirstR where
  e : Nat
  l : Nat
  n : Nat
  err : Int

/-- What the first sector says of itself. -/
def firstL (b : List UInt8) : FirstR :=
  if b.length < 64 then ⟨0, 0, 0, 5⟩ else
  if (readB (b.take 64)).2 ≠ 0 then ⟨0, 0, 0, 6⟩ else
  if leV (b.take 8) = 0 ∨ leV ((b.drop 8).take 8) = 0 ∨ leV ((b.drop 16).take 1) ≠ 0 ∨ secN (leV ((b.drop 17).take 1)) = 0 then ⟨0, 0, 0, 4⟩ else
  ⟨leV (b.take 8), leV ((b.drop 8).take 8), leV ((b.drop 17).take 1), 0⟩

theorem readB_cases (b : List UInt8) (h : 4 ≤ b.length) : readB b = ([], 6) ∨ readB b = (b.take (b.length - 4), 0) := by
  unfold readB
  rw [if_neg (by omega)]
  split
  · exact .inr rfl
  · exact .inl rfl

set_option maxHeartbeats 4000000 in
set_option maxRecDepth 100000 in
theorem first_calls (s : ByteArray) (w : World) (hs : s.size ≤ 1000000) :
    Calls Try.prog 68 #[.string s] w fun r w' => ∃ R, R = firstL s.data.toList ∧ r = .returned (.tuple #[.agg #[.int .u64 R.e, .int .u64 R.l, .slice none 0 0], .int .i64 R.n, .int .i64 R.err]) ∧ Below w.heap.size w w' := by
  by_cases h64 : s.size < 64
  · have hd : firstL s.data.toList = ⟨0, 0, 0, 5⟩ := by
      unfold firstL
      rw [if_pos (by rw [toList_length]; exact h64)]
    have HD := Lib.hid hd
    clear hd
    go_enter Try.func68, Try.ntmps68
    go_wp2
    refine bodyPost_ret (v := .tuple #[.agg #[.int .u64 0, .int .u64 0, .slice none 0 0], .int .i64 0, .int .i64 5]) (by simp [results, Try.results68, go_sem]) rfl ⟨_, HD.out.symm, rfl, ?_⟩
    have hB := al (Below.refl _ w) (.cells #[.int .u64 0, .int .u64 0, .slice none 0 0] 64)
    repeat (first | exact hB | refine sc ?_ (Nat.le_refl _) _ _)
  have hL64 : 64 ≤ s.data.toList.length := by rw [toList_length]; omega
  have hLt : (s.data.toList.take 64).length = 64 := by rw [List.length_take]; omega
  have hrd := fun W => read_calls (s.extract 0 64) W (by simp; omega)
  rw [ext_take] at hrd
  rcases readB_cases (s.data.toList.take 64) (by omega) with hr | hr
  · have hd : firstL s.data.toList = ⟨0, 0, 0, 6⟩ := by
      unfold firstL
      rw [if_neg (by omega), if_pos (by rw [hr]; simp)]
    have HD := Lib.hid hd
    rw [hr] at hrd
    have HRD := Lib.hid hrd
    clear hd hr hrd hL64 hLt
    go_enter Try.func68, Try.ntmps68
    go_wp2_with fail
    refine (HRD.out _).mono ?_
    rintro r w1 ⟨rfl, hb1⟩
    obtain ⟨hcell, hfroz⟩ := bcell hb1
    go_wp2
    refine bodyPost_ret (v := .tuple #[.agg #[.int .u64 0, .int .u64 0, .slice none 0 0], .int .i64 0, .int .i64 6]) (by simp [results, Try.results68, go_sem, hcell]) rfl ⟨_, HD.out.symm, rfl, ?_⟩
    have hB := (al (Below.refl _ w) (.cells #[.int .u64 0, .int .u64 0, .slice none 0 0] 64)).trans (hb1.mono (by simp))
    repeat (first | exact hB | refine sc ?_ (Nat.le_refl _) _ _)
  · rw [hLt, show 64 - 4 = 60 from rfl, List.take_take, show min 60 64 = 60 from rfl] at hr
    have hl60 : (s.data.toList.take 60).length = 60 := by rw [List.length_take]; omega
    have hpart : ∀ a c, a + c ≤ 60 → ((s.data.toList.take 60).drop a).take c = (s.data.toList.drop a).take c := by
      intro a c h
      rw [List.drop_take, List.take_take, Nat.min_eq_left (by omega)]
    have e0 : leV (s.data.toList.take 8) = leV ((s.data.toList.take 60).take 8) := by rw [List.take_take, Nat.min_eq_left (by omega)]
    have e1 := congrArg leV (hpart 8 8 (by omega))
    have e2 := congrArg leV (hpart 16 1 (by omega))
    have e3 := congrArg leV (hpart 17 1 (by omega))
    have hd : firstL s.data.toList = if leV (s.data.toList.take 8) = 0 ∨ leV ((s.data.toList.drop 8).take 8) = 0 ∨ leV ((s.data.toList.drop 16).take 1) ≠ 0 ∨ secN (leV ((s.data.toList.drop 17).take 1)) = 0 then ⟨0, 0, 0, 4⟩ else
  ⟨leV (s.data.toList.take 8), leV ((s.data.toList.drop 8).take 8), leV ((s.data.toList.drop 17).take 1), 0⟩ := by
      unfold firstL
      rw [if_neg (by omega), if_neg (by rw [hr]; simp)]
    rw [hr] at hrd
    rw [e0, ← e1, ← e2, ← e3] at hd
    have hn256 : leV (((s.data.toList.take 60).drop 17).take 1) < 256 := by
      have := leV_lt (((s.data.toList.take 60).drop 17).take 1)
      rw [List.length_take, List.length_drop, hl60] at this
      exact this
    clear e0 e1 e2 e3 hpart hr hL64 hLt
    generalize s.data.toList.take 60 = q at hd hrd hl60 hn256
    generalize firstL s.data.toList = R at hd
    have HRD := Lib.hid hrd
    have hqs : (bstr q).size = 60 := hl60
    have HD := Lib.hid hd
    have HL := Lib.hid hl60
    clear hrd hd hl60
    go_enter Try.func68, Try.ntmps68
    go_wp2_with fail
    refine (HRD.out _).mono ?_
    rintro r w1 ⟨rfl, hb1⟩
    go_wp2_with fail
    refine (newReader_calls _ _ (by omega)).mono ?_
    rintro r w2 ⟨b, rfl, hbge, hR, hb2⟩
    rw [bstr_toList] at hR
    go_wp2_with fail
    refine (rnum_take b 8 q w2 hR (by decide) (by decide) (by have := HL.out; omega)).mono ?_
    rintro r w3 ⟨rfl, hR3, hk3⟩
    go_wp2_with fail
    refine (rnum_take b 8 _ w3 hR3 (by decide) (by decide) (by have := HL.out; rw [List.length_drop]; omega)).mono ?_
    rintro r w4 ⟨rfl, hR4, hk4⟩
    rw [List.drop_drop] at hR4
    generalize hE : leV (List.take 8 q) = E
    generalize hLv : leV (List.take 8 (List.drop 8 q)) = L
    obtain ⟨X, hX⟩ : ∃ X, X = w4.heap.size := ⟨_, rfl⟩
    have ga : (w4.alloc (.cells #[.int .u64 E, .int .u64 L, .slice none 0 0] 64)).heap[X]? = some (.cells #[.int .u64 E, .int .u64 L, .slice none 0 0] 64 (0, 0)) := by rw [hX]; exact heap_alloc_new w4 _
    have hRa : Rd b (List.drop (8 + 8) q) 0 (w4.alloc (.cells #[.int .u64 E, .int .u64 L, .slice none 0 0] 64)) := hR4.below (al (Below.refl _ _) _)
    have hs1 := hb1.size
    simp at hs1
    have hs2 := hb2.size
    have hs3 := hk3.size
    have hs4 := hk4.size
    have hbl := hR.lt
    have HBa : Hid (Below w.heap.size w (w4.alloc (.cells #[.int .u64 E, .int .u64 L, .slice none 0 0] 64))) := by
      have h2 := (al (Below.refl _ w) (.cells #[.int .u64 0, .int .u64 0, .slice none 0 0] 64)).trans ((hb1.trans (hb2.mono (by simp; omega))).mono (by simp))
      exact al ((h2.trans (hk3.below h2.size (fun k h e => by omega))).trans (hk4.below (by omega) (fun k h e => by omega))) _
    have g0 : w4.heap[w.heap.size]? = some (.cells #[.int .u64 0, .int .u64 0, .slice none 0 0] 64 (0, 0)) := by
      have g0 := heap_alloc_new w (.cells #[.int .u64 0, .int .u64 0, .slice none 0 0] 64)
      have g1 := (hb1.block w.heap.size (by simp)).trans g0
      have g2 := (hb2.block w.heap.size (by omega)).trans g1
      have g3 := (hk3.block w.heap.size (by omega) (by omega)).trans g2
      exact (hk4.block w.heap.size (by omega) (by omega)).trans g3
    have ga0 := (Below.heap_alloc w4 (.cells #[.int .u64 E, .int .u64 L, .slice none 0 0] 64) _ (by omega : w.heap.size < w4.heap.size)).trans g0
    have hXb : X ≠ b := by omega
    have hwX : w.heap.size < X := by omega
    have hbX : w.heap.size < b := by omega
    go_wp2_with fail
    rw [← hX]
    generalize (w4.alloc (.cells #[.int .u64 E, .int .u64 L, .slice none 0 0] 64)) = W4 at HBa hRa ga ga0 ⊢
    clear hR hR3 hR4 hb1 hb2 hk3 hk4 g0 hs1 hs2 hs3 hs4 hbl hX
    refine (rnum_take b 1 _ W4 hRa (by decide) (by decide) (by have := HL.out; rw [List.length_drop]; omega)).mono ?_
    rintro r w5 ⟨rfl, hR5, hk5⟩
    rw [List.drop_drop] at hR5
    go_wp2_with fail
    refine (rnum_take b 1 _ w5 hR5 (by decide) (by decide) (by have := HL.out; rw [List.length_drop]; omega)).mono ?_
    rintro r w6 ⟨rfl, hR6, hk6⟩
    generalize hP : leV (List.take 1 (List.drop (8 + 8) q)) = P
    have hnn : leV (List.take 1 (List.drop (8 + 8 + 1) q)) = leV (List.take 1 (List.drop 17 q)) := rfl
    rw [hnn]
    generalize hNv : leV (List.take 1 (List.drop 17 q)) = N at hn256
    have hwn : IntKind.i64.wrap (N : Int) = N := by rw [IntKind.wrap_i64]; omega
    have gx : w6.heap[X]? = some (.cells #[.int .u64 E, .int .u64 L, .slice none 0 0] 64 (0, 0)) := by
      have h1 := (hk5.block X (lt_of_heap ga) hXb).trans ga
      exact (hk6.block X (lt_of_heap h1) hXb).trans h1
    have gr : w6.heap[w.heap.size]? = some (.cells #[.int .u64 0, .int .u64 0, .slice none 0 0] 64 (0, 0)) := by
      have h1 := (hk5.block _ (lt_of_heap ga0) (by omega)).trans ga0
      exact (hk6.block _ (lt_of_heap h1) (by omega)).trans h1
    have HB6 : Hid (Below w.heap.size w w6) := by
      have h := HBa.out
      have s5 := hk5.size
      exact (h.trans (hk5.below h.size (fun k h e => by omega))).trans (hk6.below (by have := h.size; omega) (fun k h e => by omega))
    have HDD : Hid (R = if E = 0 ∨ L = 0 ∨ P ≠ 0 ∨ secN N = 0 then ⟨0, 0, 0, 4⟩ else ⟨E, L, N, 0⟩) := by
      have := HD.out
      rw [hE, hLv, hNv, show leV (List.take 1 (List.drop 16 q)) = P from hP] at this
      exact this
    have c0 : w6.cell? ⟨w.heap.size, 0, none⟩ = some (.int .u64 0) := by rw [Lib.cell_of_heap gr]; rfl
    have c1 : w6.cell? ⟨w.heap.size, 1, none⟩ = some (.int .u64 0) := by rw [Lib.cell_of_heap gr]; rfl
    have c2 : w6.cell? ⟨w.heap.size, 2, none⟩ = some (.slice none 0 0) := by rw [Lib.cell_of_heap gr]; rfl
    have f0 : w6.frozen? ⟨w.heap.size, 0, none⟩ = false := Lib.frozen_of_heap gr 0
    have f1 : w6.frozen? ⟨w.heap.size, 1, none⟩ = false := Lib.frozen_of_heap gr 1
    have f2 : w6.frozen? ⟨w.heap.size, 2, none⟩ = false := Lib.frozen_of_heap gr 2
    have x0 : w6.cell? ⟨X, 0, none⟩ = some (.int .u64 E) := by rw [Lib.cell_of_heap gx]; rfl
    have x1 : w6.cell? ⟨X, 1, none⟩ = some (.int .u64 L) := by rw [Lib.cell_of_heap gx]; rfl
    have x2 : w6.cell? ⟨X, 2, none⟩ = some (.slice none 0 0) := by rw [Lib.cell_of_heap gx]; rfl
    clear hR5 hR6 hk5 hk6 hRa ga ga0 HBa gx gr hE hLv hNv hP hnn HD
    by_cases k0 : E = 0
    · have hR : Hid (R = ⟨0, 0, 0, 4⟩) := by rw [HDD.out, if_pos (.inl k0)]; rfl
      have b0 : ((E : Int) == 0) = true := beq_iff_eq.2 (by omega)
      clear HDD k0
      go_wp2
      refine bodyPost_ret (v := .tuple #[.agg #[.int .u64 0, .int .u64 0, .slice none 0 0], .int .i64 0, .int .i64 4]) (by simp [results, Try.results68, go_sem, c0, c1, c2]) rfl ⟨_, rfl, by rw [hR.out]; rfl, ?_⟩
      have hB := HB6.out
      repeat (first | exact hB | refine sc ?_ (Nat.le_refl _) _ _)
    have b0 : ((E : Int) == 0) = false := beq_eq_false_iff_ne.2 (by omega)
    by_cases k1 : L = 0
    · have hR : Hid (R = ⟨0, 0, 0, 4⟩) := by rw [HDD.out, if_pos (.inr (.inl k1))]; rfl
      have b1 : ((L : Int) == 0) = true := beq_iff_eq.2 (by omega)
      clear HDD k0 k1
      go_wp2
      refine bodyPost_ret (v := .tuple #[.agg #[.int .u64 0, .int .u64 0, .slice none 0 0], .int .i64 0, .int .i64 4]) (by simp [results, Try.results68, go_sem, c0, c1, c2]) rfl ⟨_, rfl, by rw [hR.out]; rfl, ?_⟩
      have hB := HB6.out
      repeat (first | exact hB | refine sc ?_ (Nat.le_refl _) _ _)
    have b1 : ((L : Int) == 0) = false := beq_eq_false_iff_ne.2 (by omega)
    by_cases k2 : P = 0
    case neg =>
      have hR : Hid (R = ⟨0, 0, 0, 4⟩) := by rw [HDD.out, if_pos (.inr (.inr (.inl k2)))]; rfl
      have b2 : ((P : Int) != 0) = true := bne_iff_ne.2 (by omega)
      have b2' : ((P : Int) == 0) = false := beq_eq_false_iff_ne.2 (by omega)
      clear HDD k0 k1 k2
      go_wp2
      refine bodyPost_ret (v := .tuple #[.agg #[.int .u64 0, .int .u64 0, .slice none 0 0], .int .i64 0, .int .i64 4]) (by simp [results, Try.results68, go_sem, c0, c1, c2]) rfl ⟨_, rfl, by rw [hR.out]; rfl, ?_⟩
      have hB := HB6.out
      repeat (first | exact hB | refine sc ?_ (Nat.le_refl _) _ _)
    subst k2
    by_cases k3 : secN (N : Int) = 0
    · have hR : Hid (R = ⟨0, 0, 0, 4⟩) := by rw [HDD.out, if_pos (.inr (.inr (.inr k3)))]; rfl
      have K3 := Lib.hid k3
      clear HDD k0 k1 k3
      go_wp2_with fail
      refine (sectors_calls _ _ (by omega) (by omega)).mono ?_
      rintro r w7 ⟨rfl, rfl⟩
      rw [K3.out]
      go_wp2
      refine bodyPost_ret (v := .tuple #[.agg #[.int .u64 0, .int .u64 0, .slice none 0 0], .int .i64 0, .int .i64 4]) (by simp [results, Try.results68, go_sem, c0, c1, c2]) rfl ⟨_, rfl, by rw [hR.out]; rfl, ?_⟩
      have hB := HB6.out
      repeat (first | exact hB | refine sc ?_ (Nat.le_refl _) _ _)
    have hR : Hid (R = ⟨E, L, N, 0⟩) := by rw [HDD.out, if_neg (by simp; exact ⟨k0, k1, k3⟩)]; rfl
    have b3 : (secN (N : Int) == 0) = false := beq_eq_false_iff_ne.2 k3
    clear HDD k0 k1 k3
    go_wp2_with fail
    refine (sectors_calls _ _ (by omega) (by omega)).mono ?_
    rintro r w7 ⟨rfl, rfl⟩
    go_wp2
    refine bodyPost_ret (v := .tuple #[.agg #[.int .u64 E, .int .u64 L, .slice none 0 0], .int .i64 N, .int .i64 0]) (by simp [results, Try.results68, go_sem, c0, c1, c2]) rfl ⟨_, rfl, by rw [hR.out], ?_⟩
    have hB := HB6.out
    repeat (first | exact hB | refine sc ?_ (Nat.le_refl _) _ _)

end Go.Proofs.Ytpbmclaglkcmoaa
