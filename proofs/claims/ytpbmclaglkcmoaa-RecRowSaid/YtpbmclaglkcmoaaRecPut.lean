import Derived.Test.YtpbmclaglkcmoaaRecHead
import Derived.Test.YtpbmclaglkcmoaaPwrongx2
namespace Go.Proofs.Ytpbmclaglkcmoaa
open Go.RowKit
set_option linter.unusedVariables false
set_option linter.unusedSimpArgs false

structure Img where
  b : Int
  v : Int
  d : ByteArray

/-- A slice of images, as it lies in a world. -/
def Imgs (w : World) (A : Option Addr) (l : List Img) : Prop :=
  ∀ j (h : j < l.length), ∃ b o, A = some ⟨b, o, none⟩ ∧ w.cell? ⟨b, o + j * 3, none⟩ = some (.int .i64 l[j].b) ∧ w.cell? ⟨b, o + j * 3 + 1, none⟩ = some (.int .u64 l[j].v) ∧ w.cell? ⟨b, o + j * 3 + 2, none⟩ = some (.string l[j].d)

theorem Imgs.below {w w' : World} {A : Option Addr} {l : List Img} (h : Imgs w A l) (hb : Below w.heap.size w w') : Imgs w' A l := by
  intro j hj
  obtain ⟨b, o, hA, h0, h1, h2⟩ := h j hj
  exact ⟨b, o, hA, (hb.cell (World.block_lt_of_cell? _ _ h0)).trans h0, (hb.cell (World.block_lt_of_cell? _ _ h1)).trans h1, (hb.cell (World.block_lt_of_cell? _ _ h2)).trans h2⟩

/-- How many sectors so many images have. -/
def secN (n : Int) : Int := if n < 1 ∨ 60 < n then 0 else (108 * n + 41) / 42

theorem sectors_calls (n : Int) (w : World) (hn : -9223372036854775808 ≤ n) (hn2 : n ≤ 9223372036854775807) :
    Calls Try.prog 43 #[.int .i64 n] w fun r w' => r = .returned (.int .i64 (secN n)) ∧ w = w' := by
  by_cases h1 : n < 1
  · go_enter Try.func43, Try.ntmps43
    go_wp2
    go_ret
    exact ⟨by simp [secN, h1], rfl⟩
  by_cases h2 : 60 < n
  · go_enter Try.func43, Try.ntmps43
    go_wp2
    go_ret
    exact ⟨by simp [secN, h2], rfl⟩
  have e : (108 * n + 42 - 1) / 42 = secN n := by
    unfold secN
    rw [if_neg (by omega)]
    omega
  have E := Lib.hid e
  clear e
  go_enter Try.func43, Try.ntmps43
  go_wp2
  go_ret
  exact ⟨congrArg (fun x => Ending.returned (Value.int .i64 x)) E.out, rfl⟩

def rightB (b : Int) (d : ByteArray) : Bool := decide (0 ≤ b ∧ b < 4096 ∧ d.size = 96)

theorem right_calls (b v : Int) (d : ByteArray) (w : World) :
    Calls Try.prog 84 #[.agg #[.int .i64 b, .int .u64 v, .string d]] w fun r w' => r = .returned (.bool (rightB b d)) ∧ Below w.heap.size w w' := by
  by_cases h1 : 0 ≤ b
  · by_cases h2 : b < 4096
    · by_cases h3 : d.size = 96
      · have h3' : ((d.size : Int) == 96) = true := beq_iff_eq.2 (by omega)
        have hr : rightB b d = true := by simp [rightB, h1, h2, h3]
        clear h3
        go_enter Try.func84, Try.ntmps84
        go_wp2
        go_ret
        exact ⟨by simp [hr, h1, h2], (Below.refl _ w).alloc (Nat.le_refl _) _⟩
      · have h3' : ((d.size : Int) == 96) = false := beq_eq_false_iff_ne.2 (by omega)
        have hr : rightB b d = false := by simp [rightB, h3]
        clear h3
        go_enter Try.func84, Try.ntmps84
        go_wp2
        go_ret
        exact ⟨by simp [hr], (Below.refl _ w).alloc (Nat.le_refl _) _⟩
    · have hr : rightB b d = false := by simp [rightB, h2]
      go_enter Try.func84, Try.ntmps84
      go_wp2
      go_ret
      exact ⟨by simp [hr], (Below.refl _ w).alloc (Nat.le_refl _) _⟩
  · have hr : rightB b d = false := by simp [rightB, h1]
    go_enter Try.func84, Try.ntmps84
    go_wp2
    go_ret
    exact ⟨by simp [hr], (Below.refl _ w).alloc (Nat.le_refl _) _⟩

/-- May a record be? -/
def ascB (l : List Img) : Prop := ∀ i (h : i < l.length), rightB l[i].b l[i].d = true ∧ ∀ (h0 : 0 < i), l[i - 1].b < l[i].b

def ValidR (e l : Int) (im : List Img) : Prop := e ≠ 0 ∧ l ≠ 0 ∧ im.length ≠ 0 ∧ ascB im ∧ im.length ≤ 60

def WrongPost (e l : Int) (im : List Img) (w : World) (r : Ending) (w' : World) : Prop := ∃ c : Int, r = .returned (.int .i64 c) ∧ (c = 0 ↔ ValidR e l im) ∧ Below w.heap.size w w'

theorem WrongPost.mk' {e l : Int} {im : List Img} {w w' : World} {r : Ending} (c : Int) (hr : r = .returned (.int .i64 c)) (hc : c = 0 ↔ ValidR e l im) (hb : Below w.heap.size w w') : WrongPost e l im w r w' := ⟨c, hr, hc, hb⟩

def toS (x : Img) : Pwrong.S99 := ⟨x.b, x.v, x.d⟩

theorem rd_toS (im : List Img) (i : Nat) (h : i < im.length) : Pwrong.rd_T99 (im.map toS) (i : Int) = toS im[i] := by
  unfold Pwrong.rd_T99
  simp [List.getD, h]

theorem right_f (x : Img) : Pwrong.block_Right.f x.b x.v x.d = some (rightB x.b x.d) := by
  unfold Pwrong.block_Right.f rightB
  by_cases h1 : x.b ≥ 0
  · rw [if_pos h1]
    by_cases h2 : x.b < 4096
    · rw [if_pos h2]
      by_cases h3 : x.d.size = 96
      · have : ((x.d.size : Int) == 96) = true := beq_iff_eq.2 (by omega)
        rw [this]; simp [h2, h3]; omega
      · have : ((x.d.size : Int) == 96) = false := beq_eq_false_iff_ne.2 (by omega)
        rw [this]; simp [h3]
    · rw [if_neg h2]; simp [h2]
  · rw [if_neg h1]; simp; omega

theorem wrong_loop (e l : Int) (im : List Img) (he : e ≠ 0) (hl : l ≠ 0) (hn0 : im.length ≠ 0) (hlen : im.length ≤ 1000000) : ∀ (d k i : Nat), i + d = im.length → d < k →
    (∀ j (h : j < im.length), j < i → rightB im[j].b im[j].d = true ∧ ∀ (h0 : 0 < j), im[j - 1].b < im[j].b) →
    ∃ c : Int, Pwrong.rec_wrong.l0 k (im.map toS) (im.length : Int) (i : Int) e l (im.map toS) = some c ∧ (c = 0 ↔ ValidR e l im) := by
  intro d
  induction d with
  | zero =>
    intro k i hi hk hok
    obtain ⟨k, rfl⟩ : ∃ m, k = m + 1 := ⟨k - 1, by omega⟩
    simp only [Pwrong.rec_wrong.l0]
    rw [if_neg (by omega)]
    by_cases h60 : im.length ≤ 60
    · rw [if_neg (by simp; omega)]
      exact ⟨0, rfl, ⟨fun _ => ⟨he, hl, hn0, fun j hj => hok j hj (by omega), h60⟩, fun _ => rfl⟩⟩
    · rw [if_pos (by simp; omega)]
      exact ⟨2, rfl, ⟨(fun h => by cases h), fun h => absurd h.2.2.2.2 h60⟩⟩
  | succ d ih =>
    intro k i hi hk hok
    obtain ⟨k, rfl⟩ : ∃ m, k = m + 1 := ⟨k - 1, by omega⟩
    have hlt : i < im.length := by omega
    simp only [Pwrong.rec_wrong.l0]
    rw [if_pos (by omega), if_pos (by omega), if_pos (by simp; omega), rd_toS im i hlt]
    rw [show Pwrong.block_Right.f (toS im[i]).f0 (toS im[i]).f1 (toS im[i]).f2 = some (rightB im[i].b im[i].d) from right_f im[i]]
    simp only [Option.bind_some]
    by_cases hr : rightB im[i].b im[i].d = true
    · rw [if_pos hr]
      by_cases h0 : 0 < i
      · have hw : wrap64 ((i : Int) - 1) = ((i - 1 : Nat) : Int) := by unfold wrap64; omega
        rw [if_pos (by omega), hw, if_pos (by omega), if_pos (by simp; omega), rd_toS im (i - 1) (by omega)]
        by_cases hb0 : (toS im[i]).f0 ≤ (toS im[i - 1]).f0
        · have hb : im[i].b ≤ im[i - 1].b := hb0
          rw [if_pos hb0]
          refine ⟨1, rfl, ⟨(fun h => by cases h), fun h => ?_⟩⟩
          have := (h.2.2.2.1 i hlt).2 h0
          omega
        · have hb : ¬ im[i].b ≤ im[i - 1].b := hb0
          rw [if_neg hb0]
          have hw2 : wrap64 ((i : Int) + 1) = ((i + 1 : Nat) : Int) := by unfold wrap64; omega
          rw [hw2]
          clear hw hw2
          refine ih k (i + 1) (by omega) (by omega) ?_
          intro j hj hji
          by_cases e1 : j = i
          · subst e1
            exact ⟨hr, fun _ => by omega⟩
          · exact hok j hj (Nat.lt_of_le_of_ne (Nat.lt_succ_iff.1 hji) e1)
      · have hw2 : wrap64 ((i : Int) + 1) = ((i + 1 : Nat) : Int) := by unfold wrap64; omega
        rw [if_neg (show ¬ ((i : Int) > 0) by omega), hw2]
        clear hw2
        refine ih k (i + 1) (by omega) (by omega) ?_
        intro j hj hji
        have e1 : j = i := by omega
        subst e1
        exact ⟨hr, fun h => absurd h h0⟩
    · rw [if_neg hr]
      exact ⟨1, rfl, ⟨(fun h => by cases h), fun h => absurd (h.2.2.2.1 i hlt).1 hr⟩⟩

theorem wrong_f (e l : Int) (im : List Img) (hlen : im.length ≤ 1000000) : ∃ k c, Pwrong.rec_wrong.f k e l (im.map toS) = some c ∧ (c = 0 ↔ ValidR e l im) := by
  refine ⟨im.length + 2, ?_⟩
  unfold Pwrong.rec_wrong.f
  by_cases h1 : e = 0
  · rw [if_pos h1]
    exact ⟨1, by simp [Pwrong.rec_wrong.j0], ⟨(fun h => by cases h), fun h => absurd h1 h.1⟩⟩
  rw [if_neg h1]
  by_cases h2 : l = 0
  · rw [if_pos h2]
    exact ⟨1, by simp [Pwrong.rec_wrong.j0], ⟨(fun h => by cases h), fun h => absurd h2 h.2.1⟩⟩
  rw [if_neg h2]
  by_cases h3 : im.length = 0
  · have : (((im.map toS).length : Int) == 0) = true := beq_iff_eq.2 (by rw [List.length_map]; omega)
    rw [this]
    exact ⟨1, by simp [Pwrong.rec_wrong.j0], ⟨(fun h => by cases h), fun h => absurd h3 h.2.2.1⟩⟩
  · have : (((im.map toS).length : Int) == 0) = false := beq_eq_false_iff_ne.2 (by rw [List.length_map]; omega)
    rw [this]
    obtain ⟨c, hc, hv⟩ := wrong_loop e l im h1 h2 h3 hlen im.length (im.length + 1) 0 (by omega) (by omega) (fun j hj h => absurd h (Nat.not_lt_zero _))
    refine ⟨c, ?_, hv⟩
    simp only [Pwrong.rec_wrong.j0, List.length_map]
    simpa using hc

theorem imgs_C {w : World} {A : Option Addr} {im : List Img} (h : Imgs w A im) (hl : im.length ≤ 1000000) : YtpbmclaglkcmoaaW.PrintWords.Kd.C Pwrong.k99 w A (im.map toS).length (im.map toS) := by
  refine ⟨rfl, by simp; omega, fun hn => ?_⟩
  rw [List.length_map] at hn
  obtain ⟨b, o, hA, _⟩ := h 0 hn
  refine ⟨⟨b, o, none⟩, hA, fun j p hj => ?_⟩
  have hj' : j < im.length := by
    have := (List.getElem?_eq_some_iff.1 hj).1
    simpa using this
  rw [List.getElem?_map, List.getElem?_eq_getElem hj'] at hj
  obtain rfl := Option.some.inj hj
  obtain ⟨b', o', hA', c0, c1, c2⟩ := h j hj'
  rw [hA] at hA'
  obtain ⟨rfl, rfl⟩ : b = b' ∧ o = o' := by simpa using hA'
  refine ⟨[.int .i64 im[j].b, .int .u64 im[j].v, .string im[j].d], rfl, Pwrong.k99_mk w (toS im[j]), fun i u hu => ?_⟩
  rw [Addr.add_lit]
  match i, hu with
  | 0, hu => simp at hu; subst hu; exact c0
  | 1, hu => simp at hu; subst hu; exact c1
  | 2, hu => simp at hu; subst hu; exact c2

theorem wrong_calls (e l : Int) (A : Option Addr) (c : Nat) (im : List Img) (w : World) (hI : Imgs w A im) (hl : im.length ≤ 1000000) (hc : im.length ≤ c) :
    Calls Try.prog 65 #[.agg #[.int .u64 e, .int .u64 l, .slice A im.length c]] w (WrongPost e l im w) := by
  obtain ⟨k, cc, hf, hv⟩ := wrong_f e l im hl
  have h := Pwrong.rec_wrong.calls k e l A c (im.map toS) cc w (imgs_C hI hl) (by simpa using hc) hf
  rw [List.length_map] at h
  exact h.mono fun r w' ⟨h1, h2⟩ => ⟨cc, h1, hv, h2⟩

end Go.Proofs.Ytpbmclaglkcmoaa
