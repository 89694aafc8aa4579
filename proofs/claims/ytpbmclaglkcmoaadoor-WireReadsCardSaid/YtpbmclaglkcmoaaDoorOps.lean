import Derived.Test.YtpbmclaglkcmoaaDoorRefW2
namespace Go.Proofs.YtpbmclaglkcmoaaDoor
open Go.RowKit
set_option linter.unusedVariables false
set_option linter.unusedSimpArgs false

/-- A step of the wire laws. -/
structure OpR where
  k : Int
  n : Int
  v : Int
  s : ByteArray

def Ops (w : World) (A : Option Addr) (l : List OpR) : Prop :=
  ∀ j (h : j < l.length), ∃ b o, A = some ⟨b, o, none⟩ ∧ w.cell? ⟨b, o + j * 4, none⟩ = some (.int .i64 l[j].k) ∧ w.cell? ⟨b, o + j * 4 + 1, none⟩ = some (.int .i64 l[j].n) ∧ w.cell? ⟨b, o + j * 4 + 2, none⟩ = some (.int .u64 l[j].v) ∧ w.cell? ⟨b, o + j * 4 + 3, none⟩ = some (.string l[j].s)

theorem Ops.below {w w' : World} {A : Option Addr} {l : List OpR} (h : Ops w A l) (hb : Below w.heap.size w w') : Ops w' A l := by
  intro j hj
  obtain ⟨b, o, hA, h0, h1, h2, h3⟩ := h j hj
  exact ⟨b, o, hA, (hb.cell (World.block_lt_of_cell? _ _ h0)).trans h0, (hb.cell (World.block_lt_of_cell? _ _ h1)).trans h1, (hb.cell (World.block_lt_of_cell? _ _ h2)).trans h2, (hb.cell (World.block_lt_of_cell? _ _ h3)).trans h3⟩

def LightPost (l : List OpR) (b : Bool) : Prop := b = true → l.length ≤ 60 ∧ ∀ x ∈ l, x.s.size ≤ 300

set_option maxRecDepth 100000 in
theorem light_calls (A : Option Addr) (c : Nat) (l : List OpR) (w : World) (hI : Ops w A l) (hc : l.length ≤ c) (hm : l.length ≤ 9223372036854775807) (hs : ∀ x ∈ l, x.s.size ≤ 9223372036854775807) :
    Calls Tryd.prog 22 #[.slice A l.length c] w fun r w' => ∃ b, LightPost l b ∧ r = .returned (.bool b) ∧ w = w' := by
  have HI := Lib.hid hI
  have HS := Lib.hid hs
  clear hI hs
  go_enter Tryd.func22, Tryd.ntmps22
  go_wp2_with fail
  go_loopw [3] (fun s3 wr => ∃ k : Nat, k ≤ l.length ∧ k ≤ 200 ∧ s3 = .int .i64 k ∧ Hid (∀ j (h : j < l.length), j < k → l[j].s.size ≤ 300) ∧ w = wr) (fun s3 _ => l.length - (intOf s3).toNat)
  case atStart => exact ⟨0, Nat.zero_le _, Nat.zero_le _, rfl, (fun j _ h => absurd h (Nat.not_lt_zero _)), rfl⟩
  case round =>
    obtain ⟨k, hk, hk2, rfl, HA, rfl⟩ := hrel
    by_cases hlt : k < l.length
    · by_cases h200 : k < 200
      · obtain ⟨b, o, rfl, c0, c1, c2, c3⟩ := HI.out k hlt
        have hss := HS.out l[k] (List.getElem_mem hlt)
        generalize hd : l[k].s = d at c3 hss
        have h200i : (k : Int) < 200 := by omega
        by_cases hb : 300 < (d.size : Int)
        · clear hd
          go_wp2
          go_ret
          first | exact .inl ⟨(fun h => by cases h), rfl, rfl⟩ | exact ⟨false, (fun h => by cases h), rfl, rfl⟩ | exact .inl ⟨(fun h => by cases h), rfl⟩
        · have HA2 : Hid (∀ j (h : j < l.length), j < k + 1 → l[j].s.size ≤ 300) := by
            intro j hj hjk
            by_cases e : j = k
            · subst e
              rw [hd]
              omega
            · exact HA.out j hj (by omega)
          clear hd
          go_wp2
          go_roundw
          case rel => exact ⟨k + 1, by omega, by omega, by go_num, HA2.out, trivial⟩
          case measure => simp [intOf]; omega
      · have h200i : ¬ (k : Int) < 200 := by omega
        have hl60 : ¬ (l.length : Int) ≤ 60 := by omega
        clear HI HS
        go_wp2
        go_ret
        first | exact .inl ⟨(fun h => by cases h), rfl, rfl⟩ | exact ⟨false, (fun h => by cases h), rfl, rfl⟩ | exact .inl ⟨(fun h => by cases h), rfl⟩
    · have hkk : k = l.length := by omega
      have HAA : Hid (∀ x ∈ l, x.s.size ≤ 300) := by
        intro x hx
        obtain ⟨j, hj, rfl⟩ := List.getElem_of_mem hx
        exact HA.out j hj (by omega)
      by_cases h60 : (l.length : Int) ≤ 60
      · clear HI HS
        go_wp2
        go_ret
        first | exact .inr ⟨(fun _ => ⟨by omega, HAA.out⟩), rfl, rfl⟩ | exact ⟨true, (fun _ => ⟨by omega, HAA.out⟩), rfl, rfl⟩ | exact .inr ⟨(fun _ => ⟨by omega, HAA.out⟩), rfl⟩
      · clear HI HS
        go_wp2
        go_ret
        first | exact .inl ⟨(fun h => by cases h), rfl, rfl⟩ | exact ⟨false, (fun h => by cases h), rfl, rfl⟩ | exact .inl ⟨(fun h => by cases h), rfl⟩

/-- The two writers, side by side. -/
def Two (B bw bx : Nat) (s t : List UInt8 × Int) (w : World) : Prop :=
  ∃ F G : Nat → Prop, (∀ k, F k → ¬ G k) ∧ (∀ k, F k ∨ G k → B ≤ k ∧ k < w.heap.size) ∧ Wr F bw s.1 s.2 w ∧ Wx G bx t.1 t.2 w

theorem Wr.within {F : Nat → Prop} {b : Nat} {bs : List UInt8} {err : Int} {w : World} (h : Wr F b bs err w) : Wr (fun k => F k ∧ k < w.heap.size) b bs err w := by
  obtain ⟨h1, v, hb, ho, hF⟩ := h
  exact ⟨⟨h1, lt_of_heap hb⟩, v, hb, ho, fun k ek => ⟨hF k ek, (ho.lt k ek).2⟩⟩
theorem Wx.within {F : Nat → Prop} {b : Nat} {bs : List UInt8} {err : Int} {w : World} (h : Wx F b bs err w) : Wx (fun k => F k ∧ k < w.heap.size) b bs err w := by
  obtain ⟨h1, v, hb, ho, hF⟩ := h
  exact ⟨⟨h1, lt_of_heap hb⟩, v, hb, ho, fun k ek => ⟨hF k ek, (ho.lt k ek).2⟩⟩

/-- The same, and a block that is none of theirs. -/
def Two2 (B o bw bx : Nat) (s t : List UInt8 × Int) (w : World) : Prop :=
  ∃ F G : Nat → Prop, (∀ k, F k → ¬ G k) ∧ (∀ k, F k ∨ G k → B ≤ k ∧ k < w.heap.size ∧ k ≠ o) ∧ o < w.heap.size ∧ Wr F bw s.1 s.2 w ∧ Wx G bx t.1 t.2 w

theorem Two2.two {B o bw bx : Nat} {s t : List UInt8 × Int} {w : World} (h : Two2 B o bw bx s t w) : Two B bw bx s t w := by
  obtain ⟨F, G, h1, h2, h3, h4, h5⟩ := h
  exact ⟨F, G, h1, fun k hk => ⟨(h2 k hk).1, (h2 k hk).2.1⟩, h4, h5⟩

theorem Two.two2 {B bw bx : Nat} {s t : List UInt8 × Int} {w : World} (h : Two B bw bx s t w) (ob : Obj) : Two2 B w.heap.size bw bx s t (w.alloc ob) := by
  obtain ⟨F, G, h1, h2, h3, h4⟩ := h
  have hb : Below w.heap.size w (w.alloc ob) := al (Below.refl _ w) _
  exact ⟨F, G, h1, fun k hk => ⟨(h2 k hk).1, by have := (h2 k hk).2; simp; omega, by have := (h2 k hk).2; omega⟩, by simp, h3.below hb, h4.below hb⟩

theorem two_w {B o bw bx : Nat} {s t s' : List UInt8 × Int} {w : World} {f : FuncId} {args : Array Value} {X : Ending} (h : Two2 B o bw bx s t w) (hB : B ≤ w.heap.size)
    (hc : ∀ F : Nat → Prop, Wr F bw s.1 s.2 w → Calls Tryd.prog f args w fun r w' => r = X ∧ Wr (fun k => F k ∨ w.heap.size ≤ k) bw s'.1 s'.2 w' ∧ KeptF F w w') :
    Calls Tryd.prog f args w fun r w' => r = X ∧ Two2 B o bw bx s' t w' ∧ Below B w w' ∧ w'.heap[o]? = w.heap[o]? := by
  obtain ⟨F, G, hd, hb, ho, hw, hx⟩ := h
  refine (hc F hw).mono ?_
  rintro r w' ⟨h1, h2, h3⟩
  refine ⟨h1, ⟨_, G, ?_, ?_, Nat.lt_of_lt_of_le ho h3.size, h2.within, hx.keep h3 (fun k hk hf => hd k hf hk)⟩, h3.below hB (fun k hk hf => by have := (hb k (.inl hf)).1; omega), h3.block o ho (fun hf => (hb o (.inl hf)).2.2 rfl)⟩
  · rintro k ⟨hf | hf, _⟩ hg
    · exact hd k hf hg
    · have := (hb k (.inr hg)).2
      omega
  · rintro k (⟨hf | hf, hl⟩ | hg)
    · exact ⟨(hb k (.inl hf)).1, hl, (hb k (.inl hf)).2.2⟩
    · exact ⟨by omega, hl, by omega⟩
    · have := hb k (.inr hg)
      exact ⟨this.1, by have := h3.size; omega, this.2.2⟩

theorem two_x {B o bw bx : Nat} {s t t' : List UInt8 × Int} {w : World} {f : FuncId} {args : Array Value} {X : Ending} (h : Two2 B o bw bx s t w) (hB : B ≤ w.heap.size)
    (hc : ∀ F : Nat → Prop, Wx F bx t.1 t.2 w → Calls Tryd.prog f args w fun r w' => r = X ∧ Wx (fun k => F k ∨ w.heap.size ≤ k) bx t'.1 t'.2 w' ∧ KeptF F w w') :
    Calls Tryd.prog f args w fun r w' => r = X ∧ Two2 B o bw bx s t' w' ∧ Below B w w' ∧ w'.heap[o]? = w.heap[o]? := by
  obtain ⟨F, G, hd, hb, ho, hw, hx⟩ := h
  refine (hc G hx).mono ?_
  rintro r w' ⟨h1, h2, h3⟩
  refine ⟨h1, ⟨F, _, ?_, ?_, Nat.lt_of_lt_of_le ho h3.size, hw.keep h3 (fun k hk hf => hd k hk hf), h2.within⟩, h3.below hB (fun k hk hf => by have := (hb k (.inr hf)).1; omega), h3.block o ho (fun hf => (hb o (.inr hf)).2.2 rfl)⟩
  · rintro k hf ⟨hg | hg, _⟩
    · exact hd k hf hg
    · have := (hb k (.inl hf)).2
      omega
  · rintro k (hf | ⟨hg | hg, hl⟩)
    · have := hb k (.inl hf)
      exact ⟨this.1, by have := h3.size; omega, this.2.2⟩
    · exact ⟨(hb k (.inr hg)).1, hl, (hb k (.inr hg)).2.2⟩
    · exact ⟨by omega, hl, by omega⟩

theorem Two.below {B bw bx : Nat} {s t : List UInt8 × Int} {w w' : World} (h : Two B bw bx s t w) (hb : Below w.heap.size w w') : Two B bw bx s t w' := by
  obtain ⟨F, G, h1, h2, h3, h4⟩ := h
  exact ⟨F, G, h1, fun k hk => ⟨(h2 k hk).1, Nat.lt_of_lt_of_le (h2 k hk).2 hb.size⟩, h3.below hb, h4.below hb⟩

theorem Two.fst {B bw bx : Nat} {s t : List UInt8 × Int} {w : World} (h : Two B bw bx s t w) : ∃ F, Wr F bw s.1 s.2 w := by
  obtain ⟨F, G, h1, h2, h3, h4⟩ := h
  exact ⟨F, h3⟩
theorem Two.snd {B bw bx : Nat} {s t : List UInt8 × Int} {w : World} (h : Two B bw bx s t w) : ∃ F, Wx F bx t.1 t.2 w := by
  obtain ⟨F, G, h1, h2, h3, h4⟩ := h
  exact ⟨G, h4⟩

theorem Two.fresh (w : World) : Two w.heap.size w.heap.size (w.heap.size + 1) ([], 0) ([], 0) ((w.alloc (.cells #[.slice none 0 0, .int .i64 0] 27)).alloc (.cells #[.slice none 0 0, .int .i64 0] 41)) := by
  have hs : (w.alloc (.cells #[.slice none 0 0, .int .i64 0] 27)).heap.size = w.heap.size + 1 := by simp
  refine ⟨fun k => k = w.heap.size, fun k => k = w.heap.size + 1, fun k h1 h2 => by omega, ?_, ?_, ?_⟩
  · intro k hk
    simp
    omega
  · refine ⟨rfl, .slice none 0 0, ?_, World.ownsRow_nil _ _ _ _, by simp [Value.ownBlock]⟩
    rw [Lib.alloc_old _ _ _ (by rw [hs]; omega)]
    exact heap_alloc_new w _
  · refine ⟨rfl, .slice none 0 0, ?_, World.ownsRow_nil _ _ _ _, by simp [Value.ownBlock]⟩
    have := heap_alloc_new (w.alloc (.cells #[.slice none 0 0, .int .i64 0] 27)) (.cells #[.slice none 0 0, .int .i64 0] 41)
    rw [hs] at this
    exact this

end Go.Proofs.YtpbmclaglkcmoaaDoor
