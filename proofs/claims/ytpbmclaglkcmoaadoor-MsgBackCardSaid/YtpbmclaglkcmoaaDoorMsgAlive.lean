import Derived.Test.YtpbmclaglkcmoaaDoorMsgLaw
namespace Go.Proofs.YtpbmclaglkcmoaaDoor
open Go.RowKit
set_option linter.unusedVariables false
set_option linter.unusedSimpArgs false

def upB (k : Int) : Bool := k == 1 || k == 3 || k == 5 || k == 9 || k == 11 || k == 13 || k == 14 || k == 15
set_option maxHeartbeats 2000000 in
theorem up_calls (k : Int) (w : World) : Calls Tryd.prog 38 #[.int .i64 k] w fun r w' => r = .returned (.bool (upB k)) ∧ w = w' := by
  by_cases h1 : k = 1
  · subst h1
    go_enter Tryd.func38, Tryd.ntmps38
    go_wp2
    go_ret
    exact ⟨rfl, rfl⟩
  by_cases h2 : k = 3
  · subst h2
    go_enter Tryd.func38, Tryd.ntmps38
    go_wp2
    go_ret
    exact ⟨rfl, rfl⟩
  by_cases h3 : k = 5
  · subst h3
    go_enter Tryd.func38, Tryd.ntmps38
    go_wp2
    go_ret
    exact ⟨rfl, rfl⟩
  by_cases h4 : k = 9
  · subst h4
    go_enter Tryd.func38, Tryd.ntmps38
    go_wp2
    go_ret
    exact ⟨rfl, rfl⟩
  by_cases h5 : k = 11
  · subst h5
    go_enter Tryd.func38, Tryd.ntmps38
    go_wp2
    go_ret
    exact ⟨rfl, rfl⟩
  by_cases h6 : k = 13
  · subst h6
    go_enter Tryd.func38, Tryd.ntmps38
    go_wp2
    go_ret
    exact ⟨rfl, rfl⟩
  by_cases h7 : k = 14
  · subst h7
    go_enter Tryd.func38, Tryd.ntmps38
    go_wp2
    go_ret
    exact ⟨rfl, rfl⟩
  by_cases h8 : k = 15
  · subst h8
    go_enter Tryd.func38, Tryd.ntmps38
    go_wp2
    go_ret
    exact ⟨rfl, rfl⟩
  have e : upB k = false := by unfold upB; simp [h1, h2, h3, h4, h5, h6, h7, h8]
  have HE := Lib.hid e
  clear e
  have g1 : (k == 1) = false := beq_eq_false_iff_ne.2 h1
  have g2 : (k == 3) = false := beq_eq_false_iff_ne.2 h2
  have g3 : (k == 5) = false := beq_eq_false_iff_ne.2 h3
  have g4 : (k == 9) = false := beq_eq_false_iff_ne.2 h4
  have g5 : (k == 11) = false := beq_eq_false_iff_ne.2 h5
  have g6 : (k == 13) = false := beq_eq_false_iff_ne.2 h6
  have g7 : (k == 14) = false := beq_eq_false_iff_ne.2 h7
  have g8 : (k == 15) = false := beq_eq_false_iff_ne.2 h8
  go_enter Tryd.func38, Tryd.ntmps38
  go_wp2
  go_ret
  rw [HE.out]
  exact ⟨rfl, rfl⟩

def m0 : MsgR := ⟨6, 3, 0, 0, 0, 0, 0, []⟩
set_option maxHeartbeats 4000000 in
set_option maxRecDepth 100000 in
theorem alive20_calls (w : World) : Calls Tryd.prog 32 #[] w fun r w' => r = .returned (.bool true) ∧ Below w.heap.size w w' := by
  have HPUT := Lib.hid (fun W => msgPut_calls m0 none 0 W (Locks.nil _ _) (by decide) (by decide))
  have hok : msgOk m0 = true := by decide
  have HG := Lib.hid (getD_enc m0 hok (by decide))
  have HVAL := Lib.hid (fun W A c => msgValid_calls m0 A c W (Locks.nil _ _) (by decide))
  have HLEN := Lib.hid (encM_len m0)
  rw [hok] at HPUT HVAL
  clear hok
  generalize encM m0 = E0 at HG HLEN HPUT
  have HGET := Lib.hid (fun W => msgGet_calls E0 W (by have := HLEN.out; have h2 : m0.locks.length = 0 := rfl; omega))
  rw [HG.out] at HGET
  clear HG HLEN
  simp only [msgV, m0, List.length_nil] at HPUT HVAL
  have HUP := Lib.hid (fun W => up_calls 1 W)
  have HUQ := Lib.hid (fun W => up_calls 6 W)
  rw [show upB 1 = true from rfl] at HUP
  rw [show upB 6 = false from rfl] at HUQ
  go_enter Tryd.func32, Tryd.ntmps32
  go_wp2_with fail
  refine (HPUT.out _).mono ?_
  simp only [if_true]
  rintro r w1 ⟨rfl, b1⟩
  go_wp2_with fail
  refine (HGET.out _).mono ?_
  rintro r w2 ⟨m, e, A, c, he, rfl, hL, hc, b2⟩
  obtain ⟨rfl, rfl⟩ := Prod.mk.inj he
  simp only [msgV, m0, List.length_nil]
  clear he hL hc
  have hob : Hid ((w2.alloc (.cells #[.int .i64 6, .int .i64 3, .int .i64 0, .int .i64 0, .int .i64 0, .int .u64 0, .int .i64 0, .slice A 0 c] 53)).heap[w2.heap.size]? = some (.cells #[.int .i64 6, .int .i64 3, .int .i64 0, .int .i64 0, .int .i64 0, .int .u64 0, .int .i64 0, .slice A 0 c] 53 (0, 0))) := heap_alloc_new w2 _
  have B2 := Lib.hid (b1.trans (b2.mono b1.size))
  clear b1 b2
  go_wp2_with fail
  refine (HUP.out _).mono ?_
  rintro r w3 ⟨rfl, rfl⟩
  go_wp2_with fail
  refine (HUQ.out _).mono ?_
  rintro r w3 ⟨rfl, rfl⟩
  go_wp2_with fail
  refine (HVAL.out _ _ _).mono ?_
  rintro r w3 ⟨rfl, b3⟩
  go_wp2
  go_ret
  exact ⟨rfl, (al B2.out _).trans (b3.mono (by have := B2.out.size; simp; omega))⟩

end Go.Proofs.YtpbmclaglkcmoaaDoor
