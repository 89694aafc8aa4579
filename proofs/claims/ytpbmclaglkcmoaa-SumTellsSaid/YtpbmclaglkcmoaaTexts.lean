import Derived.Test.YtpbmclaglkcmoaaSumRef
import Derived.Deep.AppendLies
import Derived.BigQuiet
import Derived.KernelRfl
namespace Go.Proofs.Ytpbmclaglkcmoaa
open Go.RowKit
set_option linter.unusedVariables false
set_option linter.unusedSimpArgs false

def roomS (left s : Int) : Int := if left < 0 ∨ left < s then -1 else left - s

set_option maxRecDepth 100000 in
theorem room_calls (left s : Int) (g : Nat) (w : World) (hs : 0 ≤ s) (hs2 : s ≤ 9223372036854775807) (hl0 : -1 ≤ left) (hl : left ≤ 1000000) (hg : w.cell? ⟨g, 0, none⟩ = some (.int .i64 s)) :
    Calls Try.prog 60 #[.int .i64 left, .slice (some ⟨g, 0, none⟩) 1 1] w fun r w' => r = .returned (.int .i64 (roomS left s)) ∧ w = w' := by
  by_cases hc : left < 0 ∨ left < s
  · have hR : Hid (roomS left s = -1) := by show _ = _; unfold roomS; rw [if_pos hc]
    by_cases h1 : left < 0
    · clear hc
      go_enter Try.func60, Try.ntmps60
      go_wp2_with fail
      go_loopw [0, 5] (fun s0 s5 wr => s0 = .int .i64 left ∧ s5 = .int .i64 0 ∧ w = wr) (fun _ s5 _ => 1)
      case atStart => exact ⟨rfl, rfl, rfl⟩
      case round =>
        obtain ⟨rfl, rfl, rfl⟩ := hrel
        go_wp2
        go_ret
        exact ⟨by rw [hR.out]; rfl, rfl⟩
    · have h2 : left < s := by omega
      clear hc
      go_enter Try.func60, Try.ntmps60
      go_wp2_with fail
      go_loopw [0, 5] (fun s0 s5 wr => s0 = .int .i64 left ∧ s5 = .int .i64 0 ∧ w = wr) (fun _ s5 _ => 1)
      case atStart => exact ⟨rfl, rfl, rfl⟩
      case round =>
        obtain ⟨rfl, rfl, rfl⟩ := hrel
        go_wp2
        go_ret
        exact ⟨by rw [hR.out]; rfl, rfl⟩
  · have hR : Hid (roomS left s = left - s) := by show _ = _; unfold roomS; rw [if_neg hc]
    have h1 : 0 ≤ left := by omega
    have h2 : s ≤ left := by omega
    clear hc
    go_enter Try.func60, Try.ntmps60
    go_wp2_with fail
    go_loopw [0, 5] (fun s0 s5 wr => ((s0 = .int .i64 left ∧ s5 = .int .i64 0) ∨ (s0 = .int .i64 (left - s) ∧ s5 = .int .i64 1)) ∧ w = wr) (fun _ s5 _ => 1 - (intOf s5).toNat)
    case atStart => exact ⟨.inl ⟨rfl, rfl⟩, rfl⟩
    case round =>
      obtain ⟨⟨rfl, rfl⟩ | ⟨rfl, rfl⟩, rfl⟩ := hrel
      · go_wp2
        go_roundw
        case rel => exact ⟨.inr ⟨by go_num, rfl⟩, trivial⟩
        case measure => simp [intOf]
      · go_wp2
        go_ret
        exact ⟨by rw [hR.out]; rfl, rfl⟩

/-- Short: what it tells of. -/
def ShortPost (few room : Int) (sl : List ByteArray) (b : Bool) : Prop := b = true → (sl.length : Int) ≤ few ∧ ∀ x ∈ sl, (x.size : Int) ≤ room

theorem Strs.below {w w' : World} {A : Option Addr} {l : List ByteArray} (h : Strs w A l) (hb : Below w.heap.size w w') : Strs w' A l := by
  intro j hj
  obtain ⟨a, hA, hc⟩ := h j hj
  exact ⟨a, hA, (hb.cell (World.block_lt_of_cell? _ _ hc)).trans hc⟩

set_option maxRecDepth 100000 in
theorem short_calls (few room : Int) (A : Option Addr) (c : Nat) (sl : List ByteArray) (w : World) (hI : Strs w A sl) (hc : sl.length ≤ c) (hm : sl.length ≤ 9223372036854775807) (hd : ∀ x ∈ sl, x.size ≤ 9223372036854775807) (hf : few ≤ 1000) (hr0 : 0 ≤ room) (hr : room ≤ 1000000) :
    Calls Try.prog 23 #[.int .i64 few, .int .i64 room, .slice A sl.length c] w fun r w' => ∃ b, ShortPost few room sl b ∧ r = .returned (.bool b) ∧ Below w.heap.size w w' := by
  by_cases h1 : few < (sl.length : Int)
  · go_enter Try.func23, Try.ntmps23
    go_wp2
    go_ret
    exact ⟨false, (fun h => by cases h), rfl, Below.refl _ _⟩
  have h1' : (sl.length : Int) ≤ few := by omega
  have HI := Lib.hid hI
  have HD := Lib.hid hd
  have HR : Hid ((sl.length : Int) ≤ few) := h1'
  clear hI hd
  go_enter Try.func23, Try.ntmps23
  go_wp2_with fail
  go_loopw [1, 7] (fun s1 s7 wr => ∃ (k : Nat) (rm : Int), k ≤ sl.length ∧ s7 = .int .i64 k ∧ s1 = .int .i64 rm ∧ -1 ≤ rm ∧ rm ≤ room ∧ Hid (0 ≤ rm → ∀ j (h : j < sl.length), j < k → (sl[j].size : Int) ≤ room) ∧ Hid (Below w.heap.size w wr)) (fun _ s7 _ => sl.length - (intOf s7).toNat)
  case atStart => exact ⟨0, room, Nat.zero_le _, rfl, rfl, by omega, Int.le_refl _, (fun _ j _ h => absurd h (Nat.not_lt_zero _)), Below.refl _ _⟩
  case round =>
    obtain ⟨k, rm, hk, rfl, rfl, hrm0, hrm, HA, HK⟩ := hrel
    by_cases hlt : k < sl.length
    · by_cases hr0' : 0 ≤ rm
      · obtain ⟨a, hA, c0⟩ := (HI.out.below HK.out) k hlt
        subst hA
        have hds := HD.out sl[k] (List.getElem_mem hlt)
        generalize hdk : sl[k] = d at c0 hds
        have HDK := Lib.hid hdk
        clear hdk
        have HROOM := Lib.hid (fun W hg => room_calls rm d.size wr.heap.size W (by omega) (by omega) hrm0 (by omega) hg)
        clear hds
        go_wp2_with fail
        refine (HROOM.out _ (by rw [Lib.cell_of_heap (heap_alloc_new wr _)]; rfl)).mono ?_
        rintro r w4 ⟨rfl, rfl⟩
        have hn : -1 ≤ roomS rm d.size ∧ roomS rm d.size ≤ room ∧ (0 ≤ roomS rm d.size → (d.size : Int) ≤ room) := by
          unfold roomS
          split <;> omega
        generalize roomS rm d.size = rn at hn
        have HN := Lib.hid hn
        clear HROOM hn c0
        go_wp2
        go_roundw
        case rel =>
          refine ⟨k + 1, rn, by omega, by go_num, rfl, HN.out.1, HN.out.2.1, ?_, al HK.out _⟩
          intro h0 j hj hjk
          by_cases hjk2 : j = k
          · subst hjk2
            rw [HDK.out]
            exact HN.out.2.2 h0
          · exact HA.out hr0' j hj (by omega)
        case measure => simp [intOf]; omega
      · clear HD HI
        go_wp2
        go_ret
        first | exact .inl ⟨(fun h => by cases h), rfl, HK.out⟩ | exact ⟨false, (fun h => by cases h), rfl, HK.out⟩
    · have hkk : k = sl.length := by omega
      have HAA := Lib.hid (show 0 ≤ rm → ∀ x ∈ sl, (x.size : Int) ≤ room from fun h0 x hx => by
        obtain ⟨j, hj, rfl⟩ := List.getElem_of_mem hx
        exact HA.out h0 j hj (by omega))
      by_cases hr0' : 0 ≤ rm
      · clear HD HI
        go_wp2
        go_ret
        first | exact ⟨true, (fun _ => ⟨HR.out, HAA.out hr0'⟩), rfl, HK.out⟩ | exact .inr ⟨(fun _ => ⟨HR.out, HAA.out hr0'⟩), rfl, HK.out⟩
      · clear HD HI
        go_wp2
        go_ret
        first | exact .inl ⟨(fun h => by cases h), rfl, HK.out⟩ | exact ⟨false, (fun h => by cases h), rfl, HK.out⟩

theorem addr_add0' (g j : Nat) : (⟨g, 0, none⟩ : Addr).add j = ⟨g, j, none⟩ := by unfold Addr.add; split <;> simp_all
theorem own_geS {w : World} {base : Nat} {e : TypeId} {size n : Nat} {v : Value} {xs : List Value} (h : w.ownsRow base e size v n xs) (k : Nat) (hk : v.ownBlock = some k) : base ≤ k := by
  rcases h.2 with ⟨rfl, _⟩ | ⟨g, cap, cur, rfl, hb, _⟩
  · simp [Value.ownBlock] at hk
  · have : g = k := by simpa [Value.ownBlock] using hk
    omega
def strC (l : List ByteArray) : List Value := l.map Value.string
theorem Try.infoStr : (Try.prog.info? 9).map (fun i => (i.zero, i.size, i.bytes)) = some (some (.string ⟨#[]⟩), 1, 16) := by kernel_rfl

/-- A list with room behind it, in which a mark stands. -/
def Lent (w : World) (B g cap : Nat) (l : List ByteArray) : Prop :=
  B ≤ g ∧ l.length + 1 ≤ cap ∧ (∀ j (h : j < l.length), w.cell? ⟨g, j, none⟩ = some (.string l[j])) ∧ w.cell? ⟨g, l.length, none⟩ = some (.string ⟨#[109, 97, 114, 107]⟩)

set_option maxRecDepth 100000 in
theorem lent_calls (A : Option Addr) (c : Nat) (sl : List ByteArray) (w : World) (hI : Strs w A sl) (hc : sl.length ≤ c) (hm : sl.length ≤ 1000) :
    Calls Try.prog 27 #[.slice A sl.length c] w fun r w' => ∃ g cap, Lent w' w.heap.size g cap sl ∧ r = .returned (.slice (some ⟨g, 0, none⟩) sl.length cap) ∧ Below w.heap.size w w' := by
  have HI := Lib.hid hI
  clear hI
  obtain ⟨i0, hi', hz0, hz1, hz2⟩ := info_parts Try.infoStr
  have hstrl : (strC sl).length = sl.length * 1 := by simp [strC]
  cases A with
  | none =>
    have h0 : sl = [] := by
      cases sl with
      | nil => rfl
      | cons x xs =>
        obtain ⟨a, hA, _⟩ := HI.out 0 (by simp)
        cases hA
    subst h0
    go_enter Try.func27, Try.ntmps27
    go_wp2_with (at_builtin; refine wpList_append_lies _ rfl _ _ _ rfl w.heap.size 9 i0 _ 1 16 Try.underlying27 hi' hz0 hz1 hz2 rfl (by omega) (.slice none 0 0) 0 [] rfl ((World.ownsRow_nil w _ _ _).alloc _) ⟨w.heap.size, 0, none⟩ 1 1 [.string ⟨#[109, 97, 114, 107]⟩] rfl rfl (World.news_of_block (cs := #[.string ⟨#[109, 97, 114, 107]⟩]) (t := 9) (fr := (0, 0)) (heap_alloc_new w _)) (by simp [Value.oneCell']) (by omega) (by simp only [maxLen]; omega) (by omega) (by simp) _ rfl ?_)
    intro g cap w2 ho2 hg2 hat hlt2
    have hnc : 0 + 1 ≤ cap := by
      rcases ho2.2 with ⟨h, _⟩ | ⟨g', cap', cur, h, _, _, hc', _⟩
      · cases h
      · cases h; exact hc'
    have hge : w.heap.size ≤ g := by
      rcases ho2.2 with ⟨h, _⟩ | ⟨g', cap', cur, h, hb', _⟩
      · cases h
      · cases h; exact hb'
    have hcells := ho2.cells (g := g) rfl
    have HL : Hid (Lent w2 w.heap.size g cap []) := by
      refine ⟨hge, hnc, ?_, ?_⟩
      · intro j hj
        have := hcells j (.string ([] : List ByteArray)[j]) (by exact absurd hj (Nat.not_lt_zero _))
        rwa [addr_add0'] at this
      · have := hcells 0 (.string ⟨#[109, 97, 114, 107]⟩) (by rfl)
        rwa [addr_add0'] at this
    have HB : Hid (Below w.heap.size w w2) := (al (Below.refl _ w) _).grown hg2 (by simp) (fun k h => by cases h)
    have hcapi : ((0 : Int) : Int) ≤ (cap : Int) := by omega
    have hcap0 : ((0 : Nat) : Int) ≤ ((cap : Nat) : Int) := by omega
    clear hcells ho2 hg2 hat hlt2 hge
    go_wp2
    go_ret
    exact ⟨g, cap, HL.out, rfl, HB.out⟩
  | some a =>
    have hnews : ∀ j u, (strC sl)[j]? = some u → w.cell? (a.add j) = some u := by
      intro j u hu
      have hj : j < sl.length := by
        have := (List.getElem?_eq_some_iff.1 hu).1
        simpa [strC] using this
      obtain ⟨a', hA, hcell⟩ := HI.out j hj
      cases hA
      rw [hcell]
      simp [strC, List.getElem?_eq_getElem hj] at hu
      rw [hu]
    have h1c : ∀ u ∈ strC sl, u.oneCell' = true := by
      intro u hu
      obtain ⟨x, _, rfl⟩ := List.mem_map.1 hu
      rfl
    go_enter Try.func27, Try.ntmps27
    go_wp2_with (at_builtin; refine wpList_append_own _ rfl _ _ _ rfl w.heap.size 9 i0 _ 1 16 Try.underlying27 hi' hz0 hz1 hz2 rfl (by omega) (.slice none 0 0) 0 [] rfl (World.ownsRow_nil w _ _ _) a sl.length c (strC sl) rfl hstrl hnews h1c (by simp only [maxLen]; omega) (by omega) (Nat.le_refl _) ?_)
    intro v1 w1 ho1 hg1 _
    have HB1 : Hid (Below w.heap.size w w1) := (Below.refl _ w).grown hg1 (Nat.le_refl _) (fun k h => by cases h)
    go_wp2_with (at_builtin; refine wpList_append_lies _ rfl _ _ _ rfl w.heap.size 9 i0 _ 1 16 Try.underlying27 hi' hz0 hz1 hz2 rfl (by omega) v1 sl.length (strC sl) rfl (ho1.alloc _) ⟨w1.heap.size, 0, none⟩ 1 1 [.string ⟨#[109, 97, 114, 107]⟩] rfl rfl (World.news_of_block (cs := #[.string ⟨#[109, 97, 114, 107]⟩]) (t := 9) (fr := (0, 0)) (heap_alloc_new w1 _)) (by simp [Value.oneCell']) (by omega) (by simp only [maxLen]; omega) (by omega) (by have := HB1.out.size; simp; omega) _ rfl ?_)
    intro g cap w2 ho2 hg2 hat hlt2
    have hnc : sl.length + 1 ≤ cap := by
      rcases ho2.2 with ⟨h, _⟩ | ⟨g', cap', cur, h, _, _, hc', _⟩
      · cases h
      · cases h; exact hc'
    have hge : w.heap.size ≤ g := by
      rcases ho2.2 with ⟨h, _⟩ | ⟨g', cap', cur, h, hb', _⟩
      · cases h
      · cases h; exact hb'
    have hcells := ho2.cells (g := g) rfl
    have HL : Hid (Lent w2 w.heap.size g cap sl) := by
      refine ⟨hge, hnc, ?_, ?_⟩
      · intro j hj
        have := hcells j (.string sl[j]) (by rw [List.getElem?_append_left (by simpa [strC] using hj)]; simp [strC, hj])
        rwa [addr_add0'] at this
      · have := hcells sl.length (.string ⟨#[109, 97, 114, 107]⟩) (by simp [strC])
        rwa [addr_add0'] at this
    have HB : Hid (Below w.heap.size w w2) := (al HB1.out _).grown hg2 (by have := HB1.out.size; simp; omega) (fun k h => (own_geS ho1 k h))
    have hcapi : ((sl.length : Int) : Int) ≤ (cap : Int) := by omega
    have hcap0 : ((sl.length : Nat) : Int) ≤ ((cap : Nat) : Int) := by omega
    clear hcells ho2 hg2 hat hlt2 hge
    go_wp2
    go_ret
    exact ⟨g, cap, HL.out, rfl, HB.out⟩

set_option maxRecDepth 100000 in
/-- SameTexts of equal lists only draws. -/
theorem sameT_draws (A B : Option Addr) (c c' : Nat) (sl : List ByteArray) (w : World) (hI : Strs w A sl) (hJ : Strs w B sl) (hc : sl.length ≤ c) (hc' : sl.length ≤ c') (hm : sl.length ≤ 9223372036854775807) :
    Calls Try.prog 21 #[.slice A sl.length c, .slice B sl.length c'] w fun r w' => r = .returned (.bool true) ∧ ∃ m, w' = w.drewN m := by
  have HI := Lib.hid hI
  have HJ := Lib.hid hJ
  clear hI hJ
  go_enter Try.func21, Try.ntmps21
  go_wp2_with fail
  go_loopw [5] (fun s5 wr => ∃ k : Nat, k ≤ sl.length ∧ s5 = .int .i64 k ∧ ∃ m, wr = w.drewN m) (fun s5 _ => sl.length - (intOf s5).toNat)
  case atStart => exact ⟨0, Nat.zero_le _, rfl, 0, rfl⟩
  case round =>
    obtain ⟨k, hk, rfl, m, rfl⟩ := hrel
    by_cases hlt : k < sl.length
    · obtain ⟨a, hA, c0⟩ := HI.out k hlt
      obtain ⟨b, hB, d0⟩ := HJ.out k hlt
      subst hA hB
      generalize sl[k] = x at c0 d0
      have c0' : (w.drewN m).cell? (a.add k) = some (.string x) := c0
      have d0' : (w.drewN m).cell? (b.add k) = some (.string x) := d0
      go_wp2_with fail
      go_region_held3 (fun w' => w'.cell? (a.add k) = some (.string x) ∧ w'.cell? (b.add k) = some (.string x)) (go_keep) (fail)
      clear c0 d0 c0' d0'
      go_wp2
      go_roundw
      case rel => exact ⟨k + 1, by omega, by go_num, m + 1, rfl⟩
      case measure => simp [intOf]; omega
    · clear HI HJ
      go_wp2
      go_ret
      exact ⟨rfl, m, rfl⟩

theorem Lent.strs {w : World} {B g cap : Nat} {l : List ByteArray} (h : Lent w B g cap l) : Strs w (some ⟨g, 0, none⟩) l := by
  intro j hj
  refine ⟨_, rfl, ?_⟩
  rw [addr_add0']
  exact h.2.2.1 j hj

set_option maxRecDepth 100000 in
theorem stays_calls (A : Option Addr) (c g cap B : Nat) (sl : List ByteArray) (w : World) (hI : Strs w A sl) (hL : Lent w B g cap sl) (hc : sl.length ≤ c) (hm : sl.length ≤ 1000) :
    Calls Try.prog 38 #[.slice (some ⟨g, 0, none⟩) sl.length cap, .slice A sl.length c] w fun r w' => r = .returned (.bool true) ∧ ∃ m, w' = w.drewN m := by
  have HS := Lib.hid (fun W h1 h2 => sameT_draws (some ⟨g, 0, none⟩) A cap c sl W h1 h2 (by have := hL.2.1; omega) hc (by omega))
  have HI := Lib.hid hI
  have HL := Lib.hid hL
  have hcap : sl.length + 1 ≤ cap := hL.2.1
  have hcapi : (sl.length : Int) + 1 ≤ (cap : Int) := by omega
  have hcell : w.cell? ⟨g, sl.length, none⟩ = some (.string ⟨#[109, 97, 114, 107]⟩) := hL.2.2.2
  clear hI hL
  go_enter Try.func38, Try.ntmps38
  go_wp2_with fail
  refine (HS.out _ HL.out.strs HI.out).mono ?_
  rintro r w1 ⟨rfl, m, rfl⟩
  have hcell' : (w.drewN m).cell? ⟨g, sl.length, none⟩ = some (.string ⟨#[109, 97, 114, 107]⟩) := hcell
  clear HS HI HL hcell
  go_wp2
  go_ret
  exact ⟨rfl, m, rfl⟩

end Go.Proofs.Ytpbmclaglkcmoaa
