import Derived.Test.YtpbmclaglkcmoaaDoorWireCounts
namespace Go.Proofs.YtpbmclaglkcmoaaDoor
open Go.RowKit
set_option linter.unusedVariables false
set_option linter.unusedSimpArgs false

set_option maxHeartbeats 1000000 in
theorem rnum_nil (n : Int) (w : World) : Calls Tryd.prog 43 #[.pointer none, .int .i64 n] w fun r w' => r = .returned (.int .u64 0) ∧ Below w.heap.size w w' := by
  by_cases hw : wrongN 0 n = 0
  · have HW := Lib.hid hw
    clear hw
    go_enter Tryd.func43, Tryd.ntmps43
    go_wp2_with fail
    refine (wrongNum_calls 0 n _ (by decide) (by decide)).mono ?_
    rintro e w1 ⟨rfl, rfl⟩
    rw [HW.out]
    go_wp2_with fail
    refine (rtake_nil n _).mono ?_
    rintro e w1 ⟨rfl, rfl⟩
    obtain ⟨W1, cap1, hc1, ba1, bl1, sz1⟩ := conv_bytes (P := Tryd.prog) w 9 24 5 { data := #[] } Tryd.underlying9 Tryd.underlying24 Tryd.underlying5
    have BL := Lib.hid bl1
    have hs0 : (({ data := #[] } : ByteArray).size) = 0 := rfl
    rw [hs0] at hc1
    clear ba1 bl1 sz1 hs0
    go_wp2_with fail
    go_loop [6, 21] (fun s6 s21 => s21 = .int .i64 0 ∧ s6 = .int .u64 0) (fun _ s21 => 0)
    case atStart => exact ⟨rfl, rfl⟩
    case round =>
      obtain ⟨rfl, rfl⟩ := hrel
      go_wp2
      go_ret
      exact ⟨rfl, BL.out⟩
  · have hw1 : wrongN 0 n = 1 := by
      unfold wrongN at hw ⊢
      split
      · rfl
      · rename_i h
        rw [if_neg h] at hw
        split
        · rfl
        · rename_i h2
          rw [if_neg h2] at hw
          exact absurd rfl hw
    have HW := Lib.hid hw1
    clear hw hw1
    go_enter Tryd.func43, Tryd.ntmps43
    go_wp2_with fail
    refine (wrongNum_calls 0 n _ (by decide) (by decide)).mono ?_
    rintro e w1 ⟨rfl, rfl⟩
    rw [HW.out]
    go_wp2_with fail
    refine (rfail_nil 1 _).mono ?_
    rintro e w1 ⟨rfl, rfl⟩
    go_wp2
    go_ret
    exact ⟨rfl, Below.refl _ _⟩

theorem rint_nil (w : World) : Calls Tryd.prog 45 #[.pointer none] w fun r w' => r = .returned (.int .i64 0) ∧ Below w.heap.size w w' := by
  go_enter Tryd.func45, Tryd.ntmps45
  go_wp2_with fail
  refine (rnum_nil 8 _).mono ?_
  rintro e w1 ⟨rfl, b1⟩
  go_wp2
  go_ret
  exact ⟨rfl, b1⟩

theorem rcount_nil (most : Int) (w : World) : Calls Tryd.prog 19 #[.pointer none, .int .i64 most] w fun r w' => r = .returned (.int .i64 0) ∧ Below w.heap.size w w' := by
  go_enter Tryd.func19, Tryd.ntmps19
  go_wp2_with fail
  refine (rnum_nil 2 _).mono ?_
  rintro e w1 ⟨rfl, b1⟩
  go_wp2_with fail
  refine (rerr_nil _).mono ?_
  rintro e w2 ⟨rfl, rfl⟩
  go_wp2
  go_ret
  exact ⟨rfl, b1⟩

theorem rtext_nil (room : Int) (w : World) : Calls Tryd.prog 46 #[.pointer none, .int .i64 room] w fun r w' => r = .returned (.string { data := #[] }) ∧ Below w.heap.size w w' := by
  by_cases hw : wrongR room = 0
  · have HW := Lib.hid hw
    clear hw
    go_enter Tryd.func46, Tryd.ntmps46
    go_wp2_with fail
    refine (wrongRoom_calls room _).mono ?_
    rintro e w1 ⟨rfl, rfl⟩
    rw [HW.out]
    go_wp2_with fail
    refine (rcount_nil room _).mono ?_
    rintro e w1 ⟨rfl, b1⟩
    go_wp2_with fail
    refine (rtake_nil 0 _).mono ?_
    rintro e w2 ⟨rfl, rfl⟩
    go_wp2_with fail
    refine (clone_callsW { data := #[] } _ (by decide)).mono ?_
    rintro e w3 ⟨rfl, b3⟩
    go_wp2
    go_ret
    exact ⟨rfl, bl b1 b3⟩
  · have hw1 : wrongR room = 1 := by
      unfold wrongR at hw ⊢
      split
      · rfl
      · rename_i h; rw [if_neg h] at hw; exact absurd rfl hw
    have HW := Lib.hid hw1
    clear hw hw1
    go_enter Tryd.func46, Tryd.ntmps46
    go_wp2_with fail
    refine (wrongRoom_calls room _).mono ?_
    rintro e w1 ⟨rfl, rfl⟩
    rw [HW.out]
    go_wp2_with fail
    refine (rfail_nil 1 _).mono ?_
    rintro e w1 ⟨rfl, rfl⟩
    go_wp2
    go_ret
    exact ⟨rfl, Below.refl _ _⟩

theorem rflag_nil (w : World) : Calls Tryd.prog 48 #[.pointer none] w fun r w' => r = .returned (.bool false) ∧ Below w.heap.size w w' := by
  go_enter Tryd.func48, Tryd.ntmps48
  go_wp2_with fail
  refine (rnum_nil 1 _).mono ?_
  rintro e w1 ⟨rfl, b1⟩
  go_wp2
  go_ret
  exact ⟨rfl, b1⟩

theorem rskip_nil (n : Int) (w : World) : Calls Tryd.prog 50 #[.pointer none, .int .i64 n] w fun r w' => r = .returned (.tuple #[]) ∧ Below w.heap.size w w' := by
  by_cases h : n < 0
  · go_enter Tryd.func50, Tryd.ntmps50
    go_wp2_with fail
    refine (rfail_nil 1 _).mono ?_
    rintro e w1 ⟨rfl, rfl⟩
    go_wp2
    refine bodyPost_ret (results_none rfl _ _ _) rfl ?_
    exact ⟨rfl, Below.refl _ _⟩
  · go_enter Tryd.func50, Tryd.ntmps50
    go_wp2_with fail
    refine (rtake_nil n _).mono ?_
    rintro e w1 ⟨rfl, rfl⟩
    go_wp2_with fail
    refine (trim_calls { data := #[] } _ (by decide)).mono ?_
    rintro e w2 ⟨y, rfl, hy, m, rfl⟩
    have hy' : y.toList.isEmpty = true := hy
    clear hy
    go_wp2
    go_end0
    exact ⟨rfl, dr _ _ _ (Nat.le_refl _)⟩

theorem rend_nil (w : World) : Calls Tryd.prog 21 #[.pointer none] w fun r w' => r = .returned (.int .i64 1) ∧ w = w' := by
  go_enter Tryd.func21, Tryd.ntmps21
  go_wp2_with fail
  refine (rerr_nil _).mono ?_
  rintro e w1 ⟨rfl, rfl⟩
  go_wp2
  go_ret
  exact ⟨rfl, rfl⟩

set_option maxHeartbeats 2000000 in
set_option maxRecDepth 100000 in
theorem wireNone_calls (n : Int) (s : ByteArray) (w : World) (hn : (Lit.int .i64 n).wf = true) (hs : s.size ≤ 140737488351232) :
    Calls Tryd.prog 12 #[.int .i64 n, .string s] w fun r w' => r = .returned (.bool true) ∧ Below w.heap.size w w' := by
  by_cases h1 : 300 < (s.size : Int)
  · go_enter Tryd.func12, Tryd.ntmps12
    go_wp2_with fail
    refine (wireAlive_calls _).mono ?_
    rintro e w1 ⟨rfl, b1⟩
    go_wp2
    go_ret
    exact ⟨rfl, b1⟩
  · go_enter Tryd.func12, Tryd.ntmps12
    go_wp2_with fail
    refine (bytes_nil _).mono ?_
    rintro e w1 ⟨rfl, rfl⟩
    go_wp2_with fail
    refine (rskip_nil n _).mono ?_
    rintro e w2 ⟨rfl, b2⟩
    go_wp2_with fail
    refine (wireAlive_calls _).mono ?_
    rintro e w3 ⟨rfl, b3⟩
    go_wp2_with fail
    refine (num_nil 1 1 _).mono ?_
    rintro e w4 ⟨rfl, rfl⟩
    go_wp2_with fail
    refine (text_nil s 9 _).mono ?_
    rintro e w5 ⟨rfl, rfl⟩
    go_wp2_with fail
    refine (pad_nil n _).mono ?_
    rintro e w6 ⟨rfl, rfl⟩
    go_wp2_with fail
    refine (rnum_nil n _).mono ?_
    rintro e w7 ⟨rfl, b7⟩
    go_wp2_with fail
    refine (rint_nil _).mono ?_
    rintro e w8 ⟨rfl, b8⟩
    go_wp2_with fail
    refine (rcount_nil n _).mono ?_
    rintro e w9 ⟨rfl, b9⟩
    go_wp2_with fail
    refine (rtext_nil n _).mono ?_
    rintro e w10 ⟨rfl, b10⟩
    go_wp2_with fail
    refine (rflag_nil _).mono ?_
    rintro e w11 ⟨rfl, b11⟩
    go_wp2_with fail
    refine (rerr_nil _).mono ?_
    rintro e w12 ⟨rfl, rfl⟩
    go_wp2_with fail
    refine (rend_nil _).mono ?_
    rintro e w13 ⟨rfl, rfl⟩
    go_wp2
    go_ret
    exact ⟨rfl, (bl (bl (bl (bl (bl (bl b2 b3) b7) b8) b9) b10) b11)⟩

end Go.Proofs.YtpbmclaglkcmoaaDoor
