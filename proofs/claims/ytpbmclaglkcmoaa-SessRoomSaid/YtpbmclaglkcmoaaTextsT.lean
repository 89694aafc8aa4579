import Derived.Test.YtpbmclaglkcmoaaFoot
import Derived.Test.YtpbmclaglkcmoaaProg
import Derived.Deep.AppendLies
import Derived.Deep.RegionHeld3
import Derived.BigQuiet
import Derived.KernelRfl
namespace Go.Proofs.Ytpbmclaglkcmoaa
open Go.RowKit
set_option linter.unusedVariables false
set_option linter.unusedSimpArgs false

def StrsT (w : World) (A : Option Addr) (l : List ByteArray) : Prop :=
  ∀ j (h : j < l.length), ∃ a, A = some a ∧ w.cell? (a.add j) = some (.string l[j])

def roomT (left s : Int) : Int := if left < 0 ∨ left < s then -1 else left - s

set_option maxRecDepth 100000 in
theorem roomT_calls (left s : Int) (g : Nat) (w : World) (hs : 0 ≤ s) (hs2 : s ≤ 9223372036854775807) (hl0 : -1 ≤ left) (hl : left ≤ 1000000) (hg : w.cell? ⟨g, 0, none⟩ = some (.int .i64 s)) :
    Calls Try.prog 60 #[.int .i64 left, .slice (some ⟨g, 0, none⟩) 1 1] w fun r w' => r = .returned (.int .i64 (roomT left s)) ∧ w = w' := by
  by_cases hc : left < 0 ∨ left < s
  · have hR : Hid (roomT left s = -1) := by show _ = _; unfold roomT; rw [if_pos hc]
    by_cases h1 : left < 0
    · clear hc
      go_enter Try.func60, Try.ntmps60
      go_wp2_with fail
      go_loopw [0, 5] (fun s0 s5 wr => s0 = .int .i64 left ∧ s5 = .int .i64 0 ∧ w = wr) (fun _ s5 _ => 1)
      case atStart => exact ⟨rfl, rfl, rfl⟩
      case round =>
        obtain ⟨rfl, rfl, rfl⟩ := hrel
        go_wp2
        go_ret
        exact ⟨by rw [hR.out]; rfl, rfl⟩
    · have h2 : left < s := by omega
      clear hc
      go_enter Try.func60, Try.ntmps60
      go_wp2_with fail
      go_loopw [0, 5] (fun s0 s5 wr => s0 = .int .i64 left ∧ s5 = .int .i64 0 ∧ w = wr) (fun _ s5 _ => 1)
      case atStart => exact ⟨rfl, rfl, rfl⟩
      case round =>
        obtain ⟨rfl, rfl, rfl⟩ := hrel
        go_wp2
        go_ret
        exact ⟨by rw [hR.out]; rfl, rfl⟩
  · have hR : Hid (roomT left s = left - s) := by show _ = _; unfold roomT; rw [if_neg hc]
    have h1 : 0 ≤ left := by omega
    have h2 : s ≤ left := by omega
    clear hc
    go_enter Try.func60, Try.ntmps60
    go_wp2_with fail
    go_loopw [0, 5] (fun s0 s5 wr => ((s0 = .int .i64 left ∧ s5 = .int .i64 0) ∨ (s0 = .int .i64 (left - s) ∧ s5 = .int .i64 1)) ∧ w = wr) (fun _ s5 _ => 1 - (intOf s5).toNat)
    case atStart => exact ⟨.inl ⟨rfl, rfl⟩, rfl⟩
    case round =>
      obtain ⟨⟨rfl, rfl⟩ | ⟨rfl, rfl⟩, rfl⟩ := hrel
      · go_wp2
        go_roundw
        case rel => exact ⟨.inr ⟨by go_num, rfl⟩, trivial⟩
        case measure => simp [intOf]
      · go_wp2
        go_ret
        exact ⟨by rw [hR.out]; rfl, rfl⟩

/-- Short: what it tells of. -/
def ShortT (few room : Int) (sl : List ByteArray) (b : Bool) : Prop := b = true → (sl.length : Int) ≤ few ∧ ∀ x ∈ sl, (x.size : Int) ≤ room

theorem StrsT.below {w w' : World} {A : Option Addr} {l : List ByteArray} (h : StrsT w A l) (hb : Below w.heap.size w w') : StrsT w' A l := by
  intro j hj
  obtain ⟨a, hA, hc⟩ := h j hj
  exact ⟨a, hA, (hb.cell (World.block_lt_of_cell? _ _ hc)).trans hc⟩

set_option maxRecDepth 100000 in
theorem shortT_calls (few room : Int) (A : Option Addr) (c : Nat) (sl : List ByteArray) (w : World) (hI : StrsT w A sl) (hc : sl.length ≤ c) (hm : sl.length ≤ 9223372036854775807) (hd : ∀ x ∈ sl, x.size ≤ 9223372036854775807) (hf : few ≤ 1000) (hr0 : 0 ≤ room) (hr : room ≤ 1000000) :
    Calls Try.prog 23 #[.int .i64 few, .int .i64 room, .slice A sl.length c] w fun r w' => ∃ b, ShortT few room sl b ∧ r = .returned (.bool b) ∧ Below w.heap.size w w' := by
  by_cases h1 : few < (sl.length : Int)
  · go_enter Try.func23, Try.ntmps23
    go_wp2
    go_ret
    exact ⟨false, (fun h => by cases h), rfl, Below.refl _ _⟩
  have h1' : (sl.length : Int) ≤ few := by omega
  have HI := Lib.hid hI
  have HD := Lib.hid hd
  have HR : Hid ((sl.length : Int) ≤ few) := h1'
  clear hI hd
  go_enter Try.func23, Try.ntmps23
  go_wp2_with fail
  go_loopw [1, 7] (fun s1 s7 wr => ∃ (k : Nat) (rm : Int), k ≤ sl.length ∧ s7 = .int .i64 k ∧ s1 = .int .i64 rm ∧ -1 ≤ rm ∧ rm ≤ room ∧ Hid (0 ≤ rm → ∀ j (h : j < sl.length), j < k → (sl[j].size : Int) ≤ room) ∧ Hid (Below w.heap.size w wr)) (fun _ s7 _ => sl.length - (intOf s7).toNat)
  case atStart => exact ⟨0, room, Nat.zero_le _, rfl, rfl, by omega, Int.le_refl _, (fun _ j _ h => absurd h (Nat.not_lt_zero _)), Below.refl _ _⟩
  case round =>
    obtain ⟨k, rm, hk, rfl, rfl, hrm0, hrm, HA, HK⟩ := hrel
    by_cases hlt : k < sl.length
    · by_cases hr0' : 0 ≤ rm
      · obtain ⟨a, hA, c0⟩ := (HI.out.below HK.out) k hlt
        subst hA
        have hds := HD.out sl[k] (List.getElem_mem hlt)
        generalize hdk : sl[k] = d at c0 hds
        have HDK := Lib.hid hdk
        clear hdk
        have HROOM := Lib.hid (fun W hg => roomT_calls rm d.size wr.heap.size W (by omega) (by omega) hrm0 (by omega) hg)
        clear hds
        go_wp2_with fail
        refine (HROOM.out _ (by rw [Lib.cell_of_heap (heap_alloc_new wr _)]; rfl)).mono ?_
        rintro r w4 ⟨rfl, rfl⟩
        have hn : -1 ≤ roomT rm d.size ∧ roomT rm d.size ≤ room ∧ (0 ≤ roomT rm d.size → (d.size : Int) ≤ room) := by
          unfold roomT
          split <;> omega
        generalize roomT rm d.size = rn at hn
        have HN := Lib.hid hn
        clear HROOM hn c0
        go_wp2
        go_roundw
        case rel =>
          refine ⟨k + 1, rn, by omega, by go_num, rfl, HN.out.1, HN.out.2.1, ?_, al HK.out _⟩
          intro h0 j hj hjk
          by_cases hjk2 : j = k
          · subst hjk2
            rw [HDK.out]
            exact HN.out.2.2 h0
          · exact HA.out hr0' j hj (by omega)
        case measure => simp [intOf]; omega
      · clear HD HI
        go_wp2
        go_ret
        first | exact .inl ⟨(fun h => by cases h), rfl, HK.out⟩ | exact ⟨false, (fun h => by cases h), rfl, HK.out⟩
    · have hkk : k = sl.length := by omega
      have HAA := Lib.hid (show 0 ≤ rm → ∀ x ∈ sl, (x.size : Int) ≤ room from fun h0 x hx => by
        obtain ⟨j, hj, rfl⟩ := List.getElem_of_mem hx
        exact HA.out h0 j hj (by omega))
      by_cases hr0' : 0 ≤ rm
      · clear HD HI
        go_wp2
        go_ret
        first | exact ⟨true, (fun _ => ⟨HR.out, HAA.out hr0'⟩), rfl, HK.out⟩ | exact .inr ⟨(fun _ => ⟨HR.out, HAA.out hr0'⟩), rfl, HK.out⟩
      · clear HD HI
        go_wp2
        go_ret
        first | exact .inl ⟨(fun h => by cases h), rfl, HK.out⟩ | exact ⟨false, (fun h => by cases h), rfl, HK.out⟩

set_option maxRecDepth 100000 in
/-- SameTexts of equal lists only draws. -/
theorem sameT2_draws (A B : Option Addr) (c c' : Nat) (sl : List ByteArray) (w : World) (hI : StrsT w A sl) (hJ : StrsT w B sl) (hc : sl.length ≤ c) (hc' : sl.length ≤ c') (hm : sl.length ≤ 9223372036854775807) :
    Calls Try.prog 21 #[.slice A sl.length c, .slice B sl.length c'] w fun r w' => r = .returned (.bool true) ∧ ∃ m, w' = w.drewN m := by
  have HI := Lib.hid hI
  have HJ := Lib.hid hJ
  clear hI hJ
  go_enter Try.func21, Try.ntmps21
  go_wp2_with fail
  go_loopw [5] (fun s5 wr => ∃ k : Nat, k ≤ sl.length ∧ s5 = .int .i64 k ∧ ∃ m, wr = w.drewN m) (fun s5 _ => sl.length - (intOf s5).toNat)
  case atStart => exact ⟨0, Nat.zero_le _, rfl, 0, rfl⟩
  case round =>
    obtain ⟨k, hk, rfl, m, rfl⟩ := hrel
    by_cases hlt : k < sl.length
    · obtain ⟨a, hA, c0⟩ := HI.out k hlt
      obtain ⟨b, hB, d0⟩ := HJ.out k hlt
      subst hA hB
      generalize sl[k] = x at c0 d0
      have c0' : (w.drewN m).cell? (a.add k) = some (.string x) := c0
      have d0' : (w.drewN m).cell? (b.add k) = some (.string x) := d0
      go_wp2_with fail
      go_region_held3 (fun w' => w'.cell? (a.add k) = some (.string x) ∧ w'.cell? (b.add k) = some (.string x)) (go_keep) (fail)
      clear c0 d0 c0' d0'
      go_wp2
      go_roundw
      case rel => exact ⟨k + 1, by omega, by go_num, m + 1, rfl⟩
      case measure => simp [intOf]; omega
    · clear HI HJ
      go_wp2
      go_ret
      exact ⟨rfl, m, rfl⟩

end Go.Proofs.Ytpbmclaglkcmoaa
