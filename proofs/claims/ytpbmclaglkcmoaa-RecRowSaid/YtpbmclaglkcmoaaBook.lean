import Derived.Test.YtpbmclaglkcmoaaRecAlive
namespace Go.Proofs.Ytpbmclaglkcmoaa
open Go.RowKit
set_option linter.unusedVariables false
set_option linter.unusedSimpArgs false

def roomS (left s : Int) : Int := if left < 0 ∨ left < s then -1 else left - s

set_option maxRecDepth 100000 in
theorem room_calls (left s : Int) (g : Nat) (w : World) (hs : 0 ≤ s) (hs2 : s ≤ 9223372036854775807) (hl0 : -1 ≤ left) (hl : left ≤ 1000000) (hg : w.cell? ⟨g, 0, none⟩ = some (.int .i64 s)) :
    Calls Try.prog 60 #[.int .i64 left, .slice (some ⟨g, 0, none⟩) 1 1] w fun r w' => r = .returned (.int .i64 (roomS left s)) ∧ w = w' := by
  by_cases hc : left < 0 ∨ left < s
  · have hR : Hid (roomS left s = -1) := by show _ = _; unfold roomS; rw [if_pos hc]
    by_cases h1 : left < 0
    · clear hc
      go_enter Try.func60, Try.ntmps60
      go_wp2_with fail
      go_loopw [0, 5] (fun s0 s5 wr => s0 = .int .i64 left ∧ s5 = .int .i64 0 ∧ w = wr) (fun _ s5 _ => 1)
      case atStart => exact ⟨rfl, rfl, rfl⟩
      case round =>
        obtain ⟨rfl, rfl, rfl⟩ := hrel
        go_wp2
        go_ret
        exact ⟨by rw [hR.out]; rfl, rfl⟩
    · have h2 : left < s := by omega
      clear hc
      go_enter Try.func60, Try.ntmps60
      go_wp2_with fail
      go_loopw [0, 5] (fun s0 s5 wr => s0 = .int .i64 left ∧ s5 = .int .i64 0 ∧ w = wr) (fun _ s5 _ => 1)
      case atStart => exact ⟨rfl, rfl, rfl⟩
      case round =>
        obtain ⟨rfl, rfl, rfl⟩ := hrel
        go_wp2
        go_ret
        exact ⟨by rw [hR.out]; rfl, rfl⟩
  · have hR : Hid (roomS left s = left - s) := by show _ = _; unfold roomS; rw [if_neg hc]
    have h1 : 0 ≤ left := by omega
    have h2 : s ≤ left := by omega
    clear hc
    go_enter Try.func60, Try.ntmps60
    go_wp2_with fail
    go_loopw [0, 5] (fun s0 s5 wr => ((s0 = .int .i64 left ∧ s5 = .int .i64 0) ∨ (s0 = .int .i64 (left - s) ∧ s5 = .int .i64 1)) ∧ w = wr) (fun _ s5 _ => 1 - (intOf s5).toNat)
    case atStart => exact ⟨.inl ⟨rfl, rfl⟩, rfl⟩
    case round =>
      obtain ⟨⟨rfl, rfl⟩ | ⟨rfl, rfl⟩, rfl⟩ := hrel
      · go_wp2
        go_roundw
        case rel => exact ⟨.inr ⟨by go_num, rfl⟩, trivial⟩
        case measure => simp [intOf]
      · go_wp2
        go_ret
        exact ⟨by rw [hR.out]; rfl, rfl⟩

/-- Light: what it tells of. -/
def LightPost (few room : Int) (im : List Img) (b : Bool) : Prop := b = true → (im.length : Int) ≤ few ∧ ∀ x ∈ im, (x.d.size : Int) ≤ room

set_option maxRecDepth 100000 in
theorem light_calls (few room : Int) (A : Option Addr) (c : Nat) (im : List Img) (w : World) (hI : Imgs w A im) (hc : im.length ≤ c) (hm : im.length ≤ 9223372036854775807) (hd : ∀ x ∈ im, x.d.size ≤ 9223372036854775807) (hf : few ≤ 1000) (hr0 : 0 ≤ room) (hr : room ≤ 1000000) :
    Calls Try.prog 39 #[.int .i64 few, .int .i64 room, .slice A im.length c] w fun r w' => ∃ b, LightPost few room im b ∧ r = .returned (.bool b) ∧ Below w.heap.size w w' := by
  by_cases h1 : few < (im.length : Int)
  · go_enter Try.func39, Try.ntmps39
    go_wp2
    go_ret
    exact ⟨false, (fun h => by cases h), rfl, Below.refl _ _⟩
  have h1' : (im.length : Int) ≤ few := by omega
  have HI := Lib.hid hI
  have HD := Lib.hid hd
  have HR : Hid ((im.length : Int) ≤ few) := h1'
  clear hI hd
  go_enter Try.func39, Try.ntmps39
  go_wp2_with fail
  go_loopw [1, 7] (fun s1 s7 wr => ∃ (k : Nat) (rm : Int), k ≤ im.length ∧ s7 = .int .i64 k ∧ s1 = .int .i64 rm ∧ -1 ≤ rm ∧ rm ≤ room ∧ Hid (0 ≤ rm → ∀ j (h : j < im.length), j < k → (im[j].d.size : Int) ≤ room) ∧ Hid (Below w.heap.size w wr)) (fun _ s7 _ => im.length - (intOf s7).toNat)
  case atStart => exact ⟨0, room, Nat.zero_le _, rfl, rfl, by omega, Int.le_refl _, (fun _ j _ h => absurd h (Nat.not_lt_zero _)), Below.refl _ _⟩
  case round =>
    obtain ⟨k, rm, hk, rfl, rfl, hrm0, hrm, HA, HK⟩ := hrel
    by_cases hlt : k < im.length
    · by_cases hr0' : 0 ≤ rm
      · obtain ⟨ib, io, hA, c0, c1, c2⟩ := (HI.out.below HK.out) k hlt
        subst hA
        have hds := HD.out im[k] (List.getElem_mem hlt)
        obtain ⟨S, hS⟩ : ∃ S : Int, S = im[k].d.size := ⟨_, rfl⟩
        have hs0 : 0 ≤ S := by omega
        have hs1 : S ≤ 9223372036854775807 := by omega
        have HS := Lib.hid hS
        generalize hdk : im[k].d = d at c2 hS hds
        have HDK := Lib.hid hdk
        clear hdk
        have HROOM := Lib.hid (fun W hg => room_calls rm S wr.heap.size W hs0 hs1 hrm0 (by omega) hg)
        rw [hS] at HROOM
        clear hS hds
        clear c0 c1
        go_wp2_with fail
        refine (HROOM.out _ (by rw [Lib.cell_of_heap (heap_alloc_new wr _)]; rfl)).mono ?_
        rintro r w4 ⟨rfl, rfl⟩
        have hn : -1 ≤ roomS rm d.size ∧ roomS rm d.size ≤ room ∧ (0 ≤ roomS rm d.size → (d.size : Int) ≤ room) := by
          unfold roomS
          split <;> omega
        generalize roomS rm d.size = rn at hn
        have HN := Lib.hid hn
        clear HROOM hn c2
        go_wp2
        go_roundw
        case rel =>
          refine ⟨k + 1, rn, by omega, by go_num, rfl, HN.out.1, HN.out.2.1, ?_, al HK.out _⟩
          intro h0 j hj hjk
          by_cases hjk2 : j = k
          · subst hjk2
            rw [HDK.out]
            exact HN.out.2.2 h0
          · exact HA.out hr0' j hj (by omega)
        case measure => simp [intOf]; omega
      · clear HD HI
        go_wp2
        go_ret
        exact .inl ⟨(fun h => by cases h), rfl, HK.out⟩
    · have hkk : k = im.length := by omega
      have HAA := Lib.hid (show 0 ≤ rm → ∀ x ∈ im, (x.d.size : Int) ≤ room from fun h0 x hx => by
        obtain ⟨j, hj, rfl⟩ := List.getElem_of_mem hx
        exact HA.out h0 j hj (by omega))
      by_cases hr0' : 0 ≤ rm
      · clear HD HI
        go_wp2
        go_ret
        exact ⟨true, (fun _ => ⟨HR.out, HAA.out hr0'⟩), rfl, HK.out⟩
      · clear HD HI
        go_wp2
        go_ret
        exact .inl ⟨(fun h => by cases h), rfl, HK.out⟩

def imEq (x y : Img) : Bool := x.b == y.b && x.v == y.v && x.d.toList == y.d.toList
theorem imEq_iff (x y : Img) : imEq x y = true ↔ x = y := by
  cases x
  cases y
  unfold imEq
  simp only [Bool.and_eq_true, beq_iff_eq, ByteArray.toList_eq, Img.mk.injEq, and_assoc]
  constructor
  · rintro ⟨h1, h2, h3⟩
    exact ⟨h1, h2, ByteArray.ext (Array.toList_inj.1 h3)⟩
  · rintro ⟨h1, h2, h3⟩
    exact ⟨h1, h2, by rw [h3]⟩

def SamePost (im jm : List Img) (b : Bool) : Prop := b = true ↔ im = jm

set_option maxRecDepth 100000 in
theorem same_calls (A B : Option Addr) (c c' : Nat) (im jm : List Img) (w : World) (hI : Imgs w A im) (hJ : Imgs w B jm) (hc : im.length ≤ c) (hc' : jm.length ≤ c') (hm : im.length ≤ 9223372036854775807) (hm' : jm.length ≤ 9223372036854775807) :
    Calls Try.prog 44 #[.slice A im.length c, .slice B jm.length c'] w fun r w' => ∃ b, SamePost im jm b ∧ r = .returned (.bool b) ∧ Below w.heap.size w w' := by
  by_cases h1 : im.length = jm.length
  case neg =>
    have hne : ((im.length : Int) == (jm.length : Int)) = false := beq_eq_false_iff_ne.2 (by omega)
    have hne2 : ((im.length : Int) != (jm.length : Int)) = true := bne_iff_ne.2 (by omega)
    go_enter Try.func44, Try.ntmps44
    go_wp2
    go_ret
    first | exact ⟨false, ⟨(fun h => by cases h), fun h => absurd (congrArg List.length h) h1⟩, rfl, Below.refl _ _⟩ | exact .inl ⟨⟨(fun h => by cases h), fun h => absurd (congrArg List.length h) h1⟩, rfl, Below.refl _ _⟩
  have hne : ((im.length : Int) == (jm.length : Int)) = true := beq_iff_eq.2 (by omega)
  have hne2 : ((im.length : Int) != (jm.length : Int)) = false := by rw [h1]; simp
  have HL := Lib.hid h1
  have HI := Lib.hid hI
  have HJ := Lib.hid hJ
  clear hI hJ h1
  go_enter Try.func44, Try.ntmps44
  go_wp2_with fail
  go_loopw [5] (fun s5 wr => ∃ k : Nat, k ≤ im.length ∧ s5 = .int .i64 k ∧ Hid (∀ j (h : j < im.length) (h' : j < jm.length), j < k → im[j] = jm[j]) ∧ Hid (Below w.heap.size w wr)) (fun s5 _ => im.length - (intOf s5).toNat)
  case atStart => exact ⟨0, Nat.zero_le _, rfl, (fun j _ _ h => absurd h (Nat.not_lt_zero _)), Below.refl _ _⟩
  case round =>
    obtain ⟨k, hk, rfl, HA, HK⟩ := hrel
    by_cases hlt : k < im.length
    · have hlt' : k < jm.length := by have := HL.out; omega
      have hltj : (k : Int) < (jm.length : Int) := by omega
      obtain ⟨ib, io, hA, c0, c1, c2⟩ := (HI.out.below HK.out) k hlt
      obtain ⟨jb, jo, hB, d0, d1, d2⟩ := (HJ.out.below HK.out) k hlt'
      subst hA hB
      by_cases hq : im[k] = jm[k]
      · have HQ := Lib.hid hq
        rw [← hq] at d0 d1 d2
        generalize im[k] = x at c0 c1 c2 d0 d1 d2
        clear hq
        go_wp2_with fail
        go_region_held3 (fun w' => w'.cell? ⟨ib, io + k * 3, none⟩ = some (.int .i64 x.b) ∧ w'.cell? ⟨ib, io + k * 3 + 1, none⟩ = some (.int .u64 x.v) ∧ w'.cell? ⟨ib, io + k * 3 + 2, none⟩ = some (.string x.d) ∧ w'.cell? ⟨jb, jo + k * 3, none⟩ = some (.int .i64 x.b) ∧ w'.cell? ⟨jb, jo + k * 3 + 1, none⟩ = some (.int .u64 x.v) ∧ w'.cell? ⟨jb, jo + k * 3 + 2, none⟩ = some (.string x.d)) (go_keep) (fail)
        have K' := Lib.hid (HK.out.drew)
        clear c0 c1 c2 d0 d1 d2
        go_wp2
        go_roundw
        case rel =>
          refine ⟨k + 1, by omega, by go_num, ?_, K'.out⟩
          intro j hj hj' hjk
          by_cases hjk2 : j = k
          · subst hjk2
            exact HQ.out
          · exact HA.out j hj hj' (by omega)
        case measure => simp [intOf]; omega
      · have HNE : Hid (im ≠ jm) := fun h => hq (by subst h; rfl)
        have hie : imEq im[k] jm[k] = false := by
          rw [← Bool.not_eq_true, imEq_iff]
          exact hq
        clear hq
        generalize im[k] = x at c0 c1 c2 hie
        generalize jm[k] = y at d0 d1 d2 hie
        unfold imEq at hie
        rw [Bool.and_eq_false_iff, Bool.and_eq_false_iff] at hie
        cases b1 : (x.b == y.b) with
        | false =>
          clear hie
          go_wp2_with fail
          go_region_held3 (fun w' => w'.cell? ⟨ib, io + k * 3, none⟩ = some (.int .i64 x.b) ∧ w'.cell? ⟨ib, io + k * 3 + 1, none⟩ = some (.int .u64 x.v) ∧ w'.cell? ⟨ib, io + k * 3 + 2, none⟩ = some (.string x.d) ∧ w'.cell? ⟨jb, jo + k * 3, none⟩ = some (.int .i64 y.b) ∧ w'.cell? ⟨jb, jo + k * 3 + 1, none⟩ = some (.int .u64 y.v) ∧ w'.cell? ⟨jb, jo + k * 3 + 2, none⟩ = some (.string y.d)) (go_keep) (fail)
          go_wp2
          go_ret
          first | exact ⟨false, ⟨(fun h => by cases h), fun h => absurd h HNE.out⟩, rfl, HK.out.drew⟩ | exact .inl ⟨⟨(fun h => by cases h), fun h => absurd h HNE.out⟩, rfl, HK.out.drew⟩
        | true =>
          cases b2 : (x.v == y.v) with
          | false =>
            clear hie
            go_wp2_with fail
            go_region_held3 (fun w' => w'.cell? ⟨ib, io + k * 3, none⟩ = some (.int .i64 x.b) ∧ w'.cell? ⟨ib, io + k * 3 + 1, none⟩ = some (.int .u64 x.v) ∧ w'.cell? ⟨ib, io + k * 3 + 2, none⟩ = some (.string x.d) ∧ w'.cell? ⟨jb, jo + k * 3, none⟩ = some (.int .i64 y.b) ∧ w'.cell? ⟨jb, jo + k * 3 + 1, none⟩ = some (.int .u64 y.v) ∧ w'.cell? ⟨jb, jo + k * 3 + 2, none⟩ = some (.string y.d)) (go_keep) (fail)
            go_wp2
            go_ret
            first | exact ⟨false, ⟨(fun h => by cases h), fun h => absurd h HNE.out⟩, rfl, HK.out.drew⟩ | exact .inl ⟨⟨(fun h => by cases h), fun h => absurd h HNE.out⟩, rfl, HK.out.drew⟩
          | true =>
            have b3 : (x.d.toList == y.d.toList) = false := by
              rcases hie with (h | h) | h
              · rw [b1] at h; cases h
              · rw [b2] at h; cases h
              · exact h
            clear hie
            go_wp2_with fail
            go_region_held3 (fun w' => w'.cell? ⟨ib, io + k * 3, none⟩ = some (.int .i64 x.b) ∧ w'.cell? ⟨ib, io + k * 3 + 1, none⟩ = some (.int .u64 x.v) ∧ w'.cell? ⟨ib, io + k * 3 + 2, none⟩ = some (.string x.d) ∧ w'.cell? ⟨jb, jo + k * 3, none⟩ = some (.int .i64 y.b) ∧ w'.cell? ⟨jb, jo + k * 3 + 1, none⟩ = some (.int .u64 y.v) ∧ w'.cell? ⟨jb, jo + k * 3 + 2, none⟩ = some (.string y.d)) (go_keep) (fail)
            go_wp2
            go_ret
            first | exact ⟨false, ⟨(fun h => by cases h), fun h => absurd h HNE.out⟩, rfl, HK.out.drew⟩ | exact .inl ⟨⟨(fun h => by cases h), fun h => absurd h HNE.out⟩, rfl, HK.out.drew⟩
    · have HEQ : Hid (im = jm) := List.ext_getElem HL.out (fun j h h' => HA.out j h h' (by omega))
      clear HI HJ
      go_wp2
      go_ret
      first | exact ⟨true, ⟨fun _ => HEQ.out, fun _ => rfl⟩, rfl, HK.out⟩ | exact .inr ⟨⟨fun _ => HEQ.out, fun _ => rfl⟩, rfl, HK.out⟩

end Go.Proofs.Ytpbmclaglkcmoaa
