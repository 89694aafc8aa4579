import Derived.Test.YtpbmclaglkcmoaaSessAlive
import Derived.Test.YtpbmclaglkcmoaaSessRm
import Derived.Test.YtpbmclaglkcmoaaSessWt
import Derived.Test.YtpbmclaglkcmoaaSess5
import Derived.Test.YtpbmclaglkcmoaaTextsT
namespace Go.Proofs.Ytpbmclaglkcmoaa
open Go.RowKit
set_option linter.unusedVariables false
set_option linter.unusedSimpArgs false

theorem runT_len : ∀ (l : List Fr) (s : Se), (runT s l).2.length ≤ 66 * l.length
  | [], s => by simp [runT]
  | f :: l, s => by
    have h1 := runT_len l (s.take f).2
    have h2 : (s.take f).1.1.length ≤ 66 := by
      unfold Se.take
      split
      · simp
      · split
        · simp
        · split
          · simp
          · exact tellN_le _ _
    simp only [runT, List.length_append, List.length_cons]
    omega

theorem strC_oneT (l : List ByteArray) : ∀ u ∈ strC l, u.oneCell' = true := by
  intro u hu
  obtain ⟨d, _, rfl⟩ := List.mem_map.1 hu
  rfl

theorem StrsT.own {w : World} {A : Option Addr} {c n : Nat} {l : List ByteArray} (h : w.ownsRow 0 9 1 (.slice A n c) l.length (strC l)) : StrsT w A l := by
  intro j hj
  obtain ⟨g, c', e, _, hc⟩ := srow_at h j hj
  injection e with e1
  exact ⟨⟨g, 0, none⟩, e1, by rw [Addr.add_mid, Nat.zero_add]; exact hc⟩

theorem own_cap {w : World} {b : Nat} {A : Option Addr} {c n z : Nat} {t : TypeId} {l : List Value} (h : w.ownsRow b t z (.slice A n c) n l) : n ≤ c ∧ n ≤ 9223372036854775807 := by
  rcases h.2 with ⟨e, e2⟩ | ⟨g, cap, cur, e, _, _, h1, h2, _⟩
  · injection e with _ _ e3
    subst e2
    exact ⟨Nat.zero_le _, by omega⟩
  · injection e with _ _ e3
    subst e3
    unfold maxLen at h2
    exact ⟨h1, by omega⟩

/-- What lies in memory beside the sessions: two rows of texts, and whatever row of frames is at hand. -/
structure RoomC (own : Nat → Nat) (w0 : World) (A B : Nat) (sa sb : Se) (vw : Value) (want : List ByteArray) (vg : Value) (got : List ByteArray) (w : World) : Prop where
  p : Pair own w0 A B sa sb w
  want : RowI 9 1 vw want.length (strC want) (fun k => own k = 3) w
  got : RowI 9 1 vg got.length (strC got) (fun k => own k = 4) w

section
variable {own own' : Nat → Nat} {w0 w w' : World} {A B : Nat} {sa sb s' : Se} {vw vg : Value} {want got : List ByteArray}

theorem RoomC.old' (h : RoomC own w0 A B sa sb vw want vg got w) (ho : ∀ k, k < w.heap.size → own' k = own k) : ∀ k, k < w0.heap.size → own' k = 0 := fun k hk => (ho k (Nat.lt_of_lt_of_le hk h.p.below.size)).trans (h.p.old k hk)

theorem RoomC.stepA (h : RoomC own w0 A B sa sb vw want vg got w) (hk : KeptF (fun k => own k = 1) w w') (ho : ∀ k, k < w.heap.size → own' k = own k) (hs : SSI A s' (fun k => own' k = 1) w') : RoomC own' w0 A B s' sb vw want vg got w' :=
  ⟨⟨h.old' ho, hs, keep_oth (keeps_SS B sb) h.p.b hk (by decide) ho, below_step h.p.below hk (fun k hk => by rw [h.p.old k hk]; decide)⟩, keep_oth (keeps_Row _ _ _ _ _) h.want hk (by decide) ho, keep_oth (keeps_Row _ _ _ _ _) h.got hk (by decide) ho⟩
theorem RoomC.stepB (h : RoomC own w0 A B sa sb vw want vg got w) (hk : KeptF (fun k => own k = 2) w w') (ho : ∀ k, k < w.heap.size → own' k = own k) (hs : SSI B s' (fun k => own' k = 2) w') : RoomC own' w0 A B sa s' vw want vg got w' :=
  ⟨⟨h.old' ho, keep_oth (keeps_SS A sa) h.p.a hk (by decide) ho, hs, below_step h.p.below hk (fun k hk => by rw [h.p.old k hk]; decide)⟩, keep_oth (keeps_Row _ _ _ _ _) h.want hk (by decide) ho, keep_oth (keeps_Row _ _ _ _ _) h.got hk (by decide) ho⟩
theorem RoomC.below (h : RoomC own w0 A B sa sb vw want vg got w) (hb : Below w.heap.size w w') : RoomC own w0 A B sa sb vw want vg got w' :=
  ⟨⟨h.p.old, keep_below (keeps_SS A sa) h.p.a hb, keep_below (keeps_SS B sb) h.p.b hb, bl h.p.below hb⟩, keep_below (keeps_Row _ _ _ _ _) h.want hb, keep_below (keeps_Row _ _ _ _ _) h.got hb⟩
theorem RoomC.alloc (h : RoomC own w0 A B sa sb vw want vg got w) (o : Obj) : RoomC own w0 A B sa sb vw want vg got (w.alloc o) := h.below (al (Below.refl _ _) o)

/-- A text more in the row of what is to come. -/
theorem RoomC.want1 (h : RoomC own w0 A B sa sb vw want vg got w) {v' : Value} {want' : List ByteArray} (hg : w.grownBy w' vw.ownBlock) (hr : w'.ownsRow 0 9 1 v' want'.length (strC want')) (hv : ∀ k, v'.ownBlock = some k → vw.ownBlock = some k ∨ w.heap.size ≤ k) :
    RoomC (newOwn own w.heap.size 3) w0 A B sa sb v' want' vg got w' := by
  have hk : KeptF (fun k => own k = 3) w w' := (KeptF.refl _ w).grown hg (fun k e => .inl (h.want.2 k e))
  have ho : ∀ k, k < w.heap.size → newOwn own w.heap.size 3 k = own k := fun k hk => if_pos hk
  refine ⟨⟨h.old' ho, keep_oth (keeps_SS A sa) h.p.a hk (by decide) ho, keep_oth (keeps_SS B sb) h.p.b hk (by decide) ho, below_step h.p.below hk (fun k hk => by rw [h.p.old k hk]; decide)⟩, ⟨hr, fun k e => ?_⟩, keep_oth (keeps_Row _ _ _ _ _) h.got hk (by decide) ho⟩
  show newOwn own w.heap.size 3 k = 3
  unfold newOwn
  split
  · rcases hv k e with e | e
    · exact h.want.2 k e
    · omega
  · rfl
theorem RoomC.got1 (h : RoomC own w0 A B sa sb vw want vg got w) {v' : Value} {got' : List ByteArray} (hg : w.grownBy w' vg.ownBlock) (hr : w'.ownsRow 0 9 1 v' got'.length (strC got')) (hv : ∀ k, v'.ownBlock = some k → vg.ownBlock = some k ∨ w.heap.size ≤ k) :
    RoomC (newOwn own w.heap.size 4) w0 A B sa sb vw want v' got' w' := by
  have hk : KeptF (fun k => own k = 4) w w' := (KeptF.refl _ w).grown hg (fun k e => .inl (h.got.2 k e))
  have ho : ∀ k, k < w.heap.size → newOwn own w.heap.size 4 k = own k := fun k hk => if_pos hk
  refine ⟨⟨h.old' ho, keep_oth (keeps_SS A sa) h.p.a hk (by decide) ho, keep_oth (keeps_SS B sb) h.p.b hk (by decide) ho, below_step h.p.below hk (fun k hk => by rw [h.p.old k hk]; decide)⟩, keep_oth (keeps_Row _ _ _ _ _) h.want hk (by decide) ho, ⟨hr, fun k e => ?_⟩⟩
  show newOwn own w.heap.size 4 k = 4
  unfold newOwn
  split
  · rcases hv k e with e | e
    · exact h.got.2 k e
    · omega
  · rfl
end

end Go.Proofs.Ytpbmclaglkcmoaa
