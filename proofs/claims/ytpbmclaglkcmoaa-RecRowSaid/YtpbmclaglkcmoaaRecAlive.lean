import Derived.Test.YtpbmclaglkcmoaaRecMostC
namespace Go.Proofs.Ytpbmclaglkcmoaa
open Go.RowKit
set_option linter.unusedVariables false
set_option linter.unusedSimpArgs false

def oneIm (D : ByteArray) : List Img := [⟨3, 4, D⟩]
theorem one_valid (D : ByteArray) (h : D.size = 96) : ValidR 1 2 (oneIm D) := by
  refine ⟨by decide, by decide, by show (1 : Nat) ≠ 0; decide, ?_, by show 1 ≤ 60; decide⟩
  intro i hi
  have h0 : i = 0 := by have : i < 1 := hi; omega
  subst h0
  refine ⟨?_, fun h => absurd h (by decide)⟩
  show rightB 3 D = true
  simp [rightB, h]
theorem one_ok (D : ByteArray) : RecOk 1 2 (oneIm D) := by
  refine ⟨by decide, by decide, by decide, by decide, ?_⟩
  intro x hx
  have : x = ⟨3, 4, D⟩ := List.mem_singleton.1 hx
  subst this
  exact ⟨by show (0 : Int) ≤ 4; decide, by show (4 : Int) < _; decide⟩

/-- Get of what Put laid. -/
theorem get_put (e l : Nat) (im : List Img) (more : List UInt8) (W : World) (hv : ValidR e l im) (hk : RecOk e l im) (hm : more.length ≤ 900000) :
    Calls Try.prog 42 #[.string (bstr (recL e l im ++ more))] W fun r w' => ∃ (A : Option Addr) (c : Nat), r = .returned (.tuple #[.agg #[.int .u64 e, .int .u64 l, .slice A im.length c], .int .i64 (sN im.length), .int .i64 0]) ∧ im.length ≤ c ∧ Imgs w' A im ∧ Below W.heap.size W w' := by
  have hsz : (bstr (recL e l im ++ more)).size ≤ 1000000 := by
    rw [bstr_size, List.length_append, recL_length]
    have := sN_le im.length hv.2.2.2.2
    omega
  refine (get_calls _ W hsz).mono ?_
  rintro r w' ⟨R, A, c, hR, hr, hc, hI, hb⟩
  rw [bstr_toList, getL_put e l im more hv hk] at hR
  subst hR
  exact ⟨A, c, hr, hc, hI, hb⟩

set_option maxHeartbeats 4000000 in
set_option maxRecDepth 100000 in
theorem recAlive_calls (w : World) :
    Calls Try.prog 40 #[] w fun r w' => r = .returned (.bool true) ∧ Below w.heap.size w w' := by
  go_enter Try.func40, Try.ntmps40
  go_wp2_with fail
  refine (one_calls w).mono ?_
  rintro r w1 ⟨D, hD, rfl, hb1⟩
  have hI : Imgs (w1.alloc (.cells #[.int .i64 3, .int .u64 4, .string D] 99)) (some ⟨w1.heap.size, 0, none⟩) (oneIm D) := by
    have h0 := heap_alloc_new w1 (.cells #[.int .i64 3, .int .u64 4, .string D] 99)
    intro j hj
    have hj0 : j = 0 := by have : j < 1 := hj; omega
    subst hj0
    refine ⟨_, 0, rfl, ?_, ?_, ?_⟩ <;> rw [Lib.cell_of_heap h0] <;> rfl
  have HP := Lib.hid (put_calls 1 2 (some ⟨w1.heap.size, 0, none⟩) 1 (oneIm D) _ hI (Nat.le_refl _) (one_valid D hD) (one_ok D))
  have HG := Lib.hid (fun W => get_put 1 2 (oneIm D) [120] W (one_valid D hD) (one_ok D) (by decide))
  have hsz : (bstr (recL 1 2 (oneIm D))).size = 192 := by rw [bstr_size, recL_length]; show 64 * sN 1 = 192; decide
  have hcat : bstr (recL 1 2 (oneIm D)) ++ ⟨#[120]⟩ = bstr (recL 1 2 (oneIm D) ++ [120]) := bapp2 _ _
  have hB1 := Lib.hid (al hb1 (.cells #[.int .i64 3, .int .u64 4, .string D] 99))
  clear hI hb1 hD
  have HG' : Hid (∀ W, Calls Try.prog 42 #[.string (bstr (recL 1 2 (oneIm D) ++ [120]))] W fun r w' => ∃ (A : Option Addr) (c : Nat), r = .returned (.tuple #[.agg #[.int .u64 1, .int .u64 2, .slice A 1 c], .int .i64 3, .int .i64 0]) ∧ Below W.heap.size W w') := by
    intro W
    refine (HG.out W).mono ?_
    rintro r w' ⟨A, c, h1, _, _, h2⟩
    have hs3 : sN (oneIm D).length = 3 := by show sN 1 = 3; decide
    rw [hs3] at h1
    exact ⟨A, c, h1, h2⟩
  clear HG
  generalize bstr (recL 1 2 (oneIm D) ++ [120]) = s2 at hcat HG'
  have HP' : Hid (Calls Try.prog 41 #[.agg #[.int .u64 1, .int .u64 2, .slice (some ⟨w1.heap.size, 0, none⟩) 1 1]] (w1.alloc (.cells #[.int .i64 3, .int .u64 4, .string D] 99)) fun r w' => r = .returned (.tuple #[.string (bstr (recL 1 2 (oneIm D))), .int .i64 0]) ∧ Below (w1.alloc (.cells #[.int .i64 3, .int .u64 4, .string D] 99)).heap.size (w1.alloc (.cells #[.int .i64 3, .int .u64 4, .string D] 99)) w') := HP.out
  clear HP
  generalize bstr (recL 1 2 (oneIm D)) = s1 at hcat hsz HP'
  go_wp2_with fail
  refine HP'.out.mono ?_
  rintro r w2 ⟨rfl, hb2⟩
  go_wp2_with fail
  refine (HG'.out _).mono ?_
  rintro r w3 ⟨A, c, rfl, hb3⟩
  have HB3 := Lib.hid (bl (bl hB1.out hb2) hb3)
  clear hb2 hb3 hB1 HP' HG'
  go_wp2_with fail
  have gx := heap_alloc_new w3 (.cells #[.int .u64 1, .int .u64 2, .slice A 1 c] 64)
  have HB4 := Lib.hid (al HB3.out (.cells #[.int .u64 1, .int .u64 2, .slice A 1 c] 64))
  obtain ⟨X, hX⟩ : ∃ X, X = w3.heap.size := ⟨_, rfl⟩
  rw [← hX] at gx ⊢
  generalize w3.alloc (.cells #[.int .u64 1, .int .u64 2, .slice A 1 c] 64) = W4 at gx HB4 ⊢
  clear HB3 hX
  refine (putHead_calls 1 1 0 W4 (by decide) (by decide) (by decide) (by decide) (by decide) (by decide)).mono ?_
  rintro r w5 ⟨rfl, hb5⟩
  have HGH := Lib.hid (fun W => getHead_good 1 1 0 W (by decide) (by decide) (by decide) (by decide) (by decide) (by decide))
  generalize bstr (headS 1 1 0) = hd at HGH
  have gx5 := (hb5.block X (lt_of_heap gx)).trans gx
  have HB5 := Lib.hid (bl HB4.out hb5)
  clear hb5 HB4 gx
  go_wp2_with fail
  refine (HGH.out _).mono ?_
  rintro r w6 ⟨rfl, hb6⟩
  have gx6 := (hb6.block X (lt_of_heap gx5)).trans gx5
  have HB6 := Lib.hid (bl HB5.out hb6)
  have x0 : w6.cell? ⟨X, 0, none⟩ = some (.int .u64 1) := by rw [Lib.cell_of_heap gx6]; rfl
  have x1 : w6.cell? ⟨X, 1, none⟩ = some (.int .u64 2) := by rw [Lib.cell_of_heap gx6]; rfl
  have x2 : w6.cell? ⟨X, 2, none⟩ = some (.slice A 1 c) := by rw [Lib.cell_of_heap gx6]; rfl
  have hlt6 := lt_of_heap gx6
  clear hb6 HB5 gx5 gx6
  have e1 : secN 1 = 3 := by decide
  have e2 : secN 2 = 6 := by decide
  have E1 := Lib.hid e1
  have E2 := Lib.hid e2
  clear e1 e2
  go_wp2_with fail
  refine (sectors_calls _ _ (by omega) (by omega)).mono ?_
  rintro r w7 ⟨rfl, rfl⟩
  rw [E1.out]
  go_wp2_with fail
  refine (sectors_calls _ _ (by omega) (by omega)).mono ?_
  rintro r w7 ⟨rfl, rfl⟩
  rw [E2.out]
  go_wp2_with fail
  refine (most_calls 33 _ (by omega) (by omega)).mono ?_
  rintro r w7 ⟨m, hm, rfl, rfl⟩
  have hm6 : m = 6 := by
    obtain ⟨h1, h2, h3⟩ := hm
    unfold secN at h2 h3
    split at h2 <;> split at h3 <;> omega
  subst hm6
  clear hm
  go_wp2
  trace_state
  go_ret
  exact ⟨rfl, al HB6.out _⟩

end Go.Proofs.Ytpbmclaglkcmoaa
