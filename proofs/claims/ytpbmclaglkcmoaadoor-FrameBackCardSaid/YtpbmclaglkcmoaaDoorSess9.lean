import Derived.Test.YtpbmclaglkcmoaaDoorSess8
import Derived.Deep.DeepCutAuto
import Derived.Deep.CutBlock
namespace Go.Proofs.YtpbmclaglkcmoaaDoor
open Go.RowKit
set_option linter.unusedVariables false
set_option linter.unusedSimpArgs false

theorem eight_of {w : World} {b : Nat} {u0 u1 u2 u3 u4 u5 u6 u7 : Value} {t : TypeId} (h : w.heap[b]? = some (.cells #[u0, u1, u2, u3, u4, u5, u6, u7] t (0, 0))) :
    w.cell? ⟨b, 0, none⟩ = some u0 ∧ w.cell? ⟨b, 1, none⟩ = some u1 ∧ w.cell? ⟨b, 2, none⟩ = some u2 ∧ w.cell? ⟨b, 3, none⟩ = some u3 ∧ w.cell? ⟨b, 4, none⟩ = some u4 ∧ w.cell? ⟨b, 5, none⟩ = some u5 ∧ w.cell? ⟨b, 6, none⟩ = some u6 ∧ w.cell? ⟨b, 7, none⟩ = some u7 :=
  ⟨by rw [Lib.cell_of_heap h]; rfl, by rw [Lib.cell_of_heap h]; rfl, by rw [Lib.cell_of_heap h]; rfl, by rw [Lib.cell_of_heap h]; rfl, by rw [Lib.cell_of_heap h]; rfl, by rw [Lib.cell_of_heap h]; rfl, by rw [Lib.cell_of_heap h]; rfl, by rw [Lib.cell_of_heap h]; rfl⟩

/-- The blocks of a session in Take: none of the call's own variable at block B. -/
def TG (F : Nat → Prop) (B : Nat) : Nat → Prop := fun j => (F j ∧ j < B) ∨ B + 1 ≤ j

/-- A frame at block b. -/
def FrB (w : World) (b : Nat) (f : Fr) : Prop := w.heap[b]? = some (.cells #[.int .i64 f.fr, .int .i64 f.to, .int .i64 f.mine, .int .i64 f.yours, .int .i64 f.seq, .int .i64 f.ack, .string f.data, .bool f.has] 79 (0, 0))

/-- Whether what comes is kept. -/
def PutB (c : Bool) (h q : Int) : Bool := decide (c = false ∧ h < q ∧ q - h - 1 ≤ 64)

def strC (l : List ByteArray) : List Value := l.map Value.string

/-- What Take leaves behind. -/
def TakeEnd (F : Nat → Prop) (S : Nat) (s : Se) (f : Fr) (w : World) (r : Ending) (w' : World) : Prop :=
  ∃ v, r = .returned (.tuple #[v, .bool (s.take f).1.2]) ∧ w'.ownsRow 0 9 1 v (s.take f).1.1.length (strC (s.take f).1.1) ∧ (∀ k, v.ownBlock = some k → w.heap.size ≤ k) ∧ (∀ k, v.ownBlock = some k → ∃ cs, w'.heap[k]? = some (.cells cs 9 (0, 0))) ∧
    ∃ G : Nat → Prop, (∀ k, G k → (F k ∨ w.heap.size ≤ k) ∧ v.ownBlock ≠ some k) ∧ SS G S (s.take f).2 w' ∧ KeptF F w w'

theorem strRow {w : World} {v : Value} {n : Nat} {xs : List Value} (h1 : w.ownsRow 0 9 1 v n xs) : ∀ k, v.ownBlock = some k → ∃ cs, w.heap[k]? = some (.cells cs 9 (0, 0)) := by
  intro k hk
  rcases h1.2 with ⟨rfl, _⟩ | ⟨g, cap, cur, rfl, _, hh, _⟩
  · cases hk
  · have : g = k := by simpa [Value.ownBlock] using hk
    subst this
    exact ⟨cur, hh⟩

/-- A row of texts lies in no block of a session. -/
theorem SS.without {G : Nat → Prop} {S : Nat} {s : Se} {w : World} {v : Value} {n : Nat} {xs : List Value} (h3 : SS G S s w) (h1 : w.ownsRow 0 9 1 v n xs) : SS (fun k => G k ∧ v.ownBlock ≠ some k) S s w := by
  have hcs := strRow h1
  obtain ⟨R, M, hFS, hb, hr, hm⟩ := h3
  refine ⟨R, M, ⟨hFS, ?_⟩, hb, ?_, ?_⟩
  · intro e
    obtain ⟨cs, hc⟩ := hcs S e
    rw [hb] at hc
    simp at hc
  · obtain ⟨u, h5, hb5, ho, hF⟩ := hr
    refine ⟨u, ⟨h5, ?_⟩, hb5, ho, fun k e => ⟨hF k e, ?_⟩⟩
    · intro e
      obtain ⟨cs, hc⟩ := hcs R e
      rw [hb5] at hc
      simp at hc
    · intro e'
      obtain ⟨cs, hc⟩ := hcs k e'
      exact own_ne ho hc (by decide) e
  · obtain ⟨h5, n, D, ⟨es, clock, hb5, hmr⟩, hag⟩ := hm
    refine ⟨⟨h5, ?_⟩, n, D, ⟨es, clock, hb5, hmr⟩, hag⟩
    intro e
    obtain ⟨cs, hc⟩ := hcs M e
    rw [hb5] at hc
    simp at hc

theorem TakeEnd.mk {F G : Nat → Prop} {S : Nat} {s : Se} {f : Fr} {w w' : World} {v : Value} {t : (List ByteArray × Bool) × Se} (e : s.take f = t)
    (h1 : w'.ownsRow 0 9 1 v t.1.1.length (strC t.1.1)) (h2 : ∀ k, v.ownBlock = some k → w.heap.size ≤ k) (hG : ∀ k, G k → F k ∨ w.heap.size ≤ k) (h3 : SS G S t.2 w') (h4 : KeptF F w w') :
    TakeEnd F S s f w (.returned (.tuple #[v, .bool t.1.2])) w' := by
  subst e
  exact ⟨v, rfl, h1, h2, strRow h1, fun k => G k ∧ v.ownBlock ≠ some k, fun k hk => ⟨hG k hk.1, hk.2⟩, h3.without h1, h4⟩

theorem strC_append (l m : List ByteArray) : strC (l ++ m) = strC l ++ strC m := by simp [strC]
theorem strC_length (l : List ByteArray) : (strC l).length = l.length := by simp [strC]

def hdW (l : List Wt) : Wt := l.headD Wt.zero

theorem ringPeek_any (F : Nat → Prop) (R : Nat) (l : List Wt) (w : World) (h : Rg F R l w) :
    Calls Tryd.prog 101 #[.pointer (some ⟨R, 0, none⟩), .int .i64 0] w fun r w' => r = .returned (.tuple #[.agg #[.int .i64 (hdW l).seq, .string (hdW l).data, .bool (hdW l).sent, .int .i64 (hdW l).age], .bool (!l.isEmpty)]) ∧ Below w.heap.size w w' := by
  cases l with
  | nil => exact ringPeek_none F R w h
  | cons x l => exact ringPeek_some F R x l w h

/-- How many wait, as the world tells it. -/
noncomputable def qlen (S : Nat) (w : World) : Nat :=
  match w.cell? ⟨S, 4, none⟩ with
  | some (.pointer (some p)) => match w.cell? p with
    | some (.slice _ n _) => n
    | _ => 0
  | _ => 0

theorem SS.qlen {F : Nat → Prop} {S : Nat} {s : Se} {w : World} (h : SS F S s w) : qlen S w = s.out.length := by
  obtain ⟨R, M, hFS, hb, hr, hm⟩ := h
  obtain ⟨A, c, c0, c1⟩ := hr.head
  have e : w.cell? ⟨S, 4, none⟩ = some (.pointer (some ⟨R, 0, none⟩)) := by rw [Lib.cell_of_heap hb]; rfl
  unfold Go.Proofs.YtpbmclaglkcmoaaDoor.qlen
  rw [e]
  simp only [c0]

/-- What was heard, as the world tells it. -/
noncomputable def hOf (S : Nat) (w : World) : Int := match w.cell? ⟨S, 6, none⟩ with
  | some v => intOf v
  | none => 0

/-- The state in the loop over the acks: l still waits; V: the block of its first one. -/
def AckSt (F : Nat → Prop) (B S : Nat) (s1 : Se) (f : Fr) (w : World) (V : Nat) (l : List Wt) (wr : World) : Prop :=
  SS (fun j => TG F B j ∧ j ≠ V) S { s1 with out := l } wr ∧ FrB wr B f ∧ wr.heap[V]? = some (.cells #[.int .i64 (hdW l).seq, .string (hdW l).data, .bool (hdW l).sent, .int .i64 (hdW l).age] 130 (0, 0)) ∧
    B + 1 ≤ V ∧ KeptF F w wr ∧ l.dropWhile (fun x => decide (x.seq ≤ f.ack)) = s1.out.dropWhile (fun x => decide (x.seq ≤ f.ack)) ∧ l.length ≤ 64

theorem heap_set4 {w : World} {b : Nat} {t : TypeId} {u0 u1 u2 u3 v0 v1 v2 v3 : Value} (h : w.heap[b]? = some (.cells #[u0, u1, u2, u3] t (0, 0))) :
    ((((w.setCell ⟨b, 0, none⟩ v0).setCell ⟨b, 1, none⟩ v1).setCell ⟨b, 2, none⟩ v2).setCell ⟨b, 3, none⟩ v3).heap[b]? = some (.cells #[v0, v1, v2, v3] t (0, 0)) := by
  rw [heap_setCell_same _ _ _ _ _ _ (heap_setCell_same _ _ _ _ _ _ (heap_setCell_same _ _ _ _ _ _ (heap_setCell_same _ _ _ _ _ _ h)))]
  rfl
theorem heap_set4_other (w : World) (b k : Nat) (v0 v1 v2 v3 : Value) (h : k ≠ b) :
    ((((w.setCell ⟨b, 0, none⟩ v0).setCell ⟨b, 1, none⟩ v1).setCell ⟨b, 2, none⟩ v2).setCell ⟨b, 3, none⟩ v3).heap[k]? = w.heap[k]? := by
  rw [heap_setCell_other _ _ _ _ h, heap_setCell_other _ _ _ _ h, heap_setCell_other _ _ _ _ h, heap_setCell_other _ _ _ _ h]

theorem Tryd.info9w : (Tryd.prog.info? 9).map (fun i => (i.zero, i.size, i.bytes)) = some (some (.string ⟨#[]⟩), 1, 16) := by kernel_rfl

set_option maxRecDepth 100000 in
set_option maxHeartbeats 2000000 in
theorem take_good (F : Nat → Prop) (S : Nat) (s : Se) (f : Fr) (w : World) (h : SS F S s w) {N : Int} (hN : N ≤ 1000000) (hN64 : 64 ≤ N) (hk : s.Ok N) (hbad : s.bad f = false) (hsq : 0 ≤ f.seq ∧ f.seq ≤ 1000000) (hds : f.data.size ≤ 3000) :
    Calls Tryd.prog 78 #[.pointer (some ⟨S, 0, none⟩), .agg #[.int .i64 f.fr, .int .i64 f.to, .int .i64 f.mine, .int .i64 f.yours, .int .i64 f.seq, .int .i64 f.ack, .string f.data, .bool f.has]] w (TakeEnd F S s f w) := by
  have hnb : ¬ (f.fr ≠ s.peer ∨ f.to ≠ s.self ∨ f.mine < 1 ∨ f.mine < s.yours ∨ s.mine < f.yours) := fun e => by rw [Se.bad_iff.2 e] at hbad; cases hbad
  have n0 : f.fr = s.peer := by omega
  have n1 : f.to = s.self := by omega
  have p0 : (f.fr != s.peer) = false := by rw [n0]; simp
  have q0 : (f.fr == s.peer) = true := by rw [n0]; simp
  have p1 : (f.to != s.self) = false := by rw [n1]; simp
  have q1 : (f.to == s.self) = true := by rw [n1]; simp
  have p2 : decide (f.mine < (1 : Int)) = false := by simp; omega
  have p3 : decide (f.mine < s.yours) = false := by simp; omega
  have p4 : decide (s.mine < f.yours) = false := by simp; omega
  have b2 : 1 ≤ f.mine := by omega
  have b3 : s.yours ≤ f.mine := by omega
  have b4 : f.yours ≤ s.mine := by omega
  have HBAD := Lib.hid hbad
  have HH := Lib.hid h
  have HOk := Lib.hid hk
  obtain ⟨R, M, hFS, hFR, hFM, hS, hR, hM, m1, m2, m3, hb, hr, hm, c0, c1, c2, c3, c4, c5, c6, c7, c8⟩ := h.cells
  clear h hb hr hm c4 c5 c6 c7 c8 hnb n0 n1 hbad hk
  go_enter Tryd.func78, Tryd.ntmps78
  go_wp2_with fail
  have hs1 : SS F S s (w.alloc (.cells #[.int .i64 f.fr, .int .i64 f.to, .int .i64 f.mine, .int .i64 f.yours, .int .i64 f.seq, .int .i64 f.ack, .string f.data, .bool f.has] 79)) := HH.out.keep (fun k hk hlt => ⟨Below.heap_alloc _ _ _ hlt, hk⟩)
  have HS1 := Lib.hid hs1
  clear hs1
  go_quiet ((go_at_call 94; exact none_q F S s _ _ HS1.out))
  generalize hW0 : (w.alloc (.cells #[.int .i64 f.fr, .int .i64 f.to, .int .i64 f.mine, .int .i64 f.yours, .int .i64 f.seq, .int .i64 f.ack, .string f.data, .bool f.has] 79)).drewN _ = W0
  have hG0 : SS (TG F w.heap.size) S s W0 := by
    rw [← hW0]
    exact HH.out.keep (fun k hk hlt => ⟨Below.heap_alloc _ _ _ hlt, .inl ⟨hk, hlt⟩⟩)
  have hB0 : FrB W0 w.heap.size f := by
    rw [← hW0]
    exact heap_alloc_new _ _
  have hK0 : KeptF F w W0 := by
    rw [← hW0]
    exact ((KeptF.refl F w).alloc _).drewN _
  have hZ0 : W0.heap.size = w.heap.size + 1 := by
    rw [← hW0]
    simp
  have HG0 := Lib.hid hG0
  have HB0 := Lib.hid hB0
  have HK0 := Lib.hid hK0
  obtain ⟨R0, M0, gFS, gFR, gFM, gS, gR, gM, k1, k2, k3, gb, gr, gm, d0, d1, d2, d3, d4, d5, d6, d7, d8⟩ := hG0.cells
  obtain ⟨e0, e1, e2, e3, e4, e5, e6, e7⟩ := eight_of hB0
  clear hW0 hG0 hB0 hK0 gb gr gm c0 c1 c2 c3 HS1
  generalize hBe : w.heap.size = B at *
  have HBE := Lib.hid hBe
  clear hBe
  go_wp2_with fail
  go_region_held3 (fun w' => w'.cell? ⟨B, 2, none⟩ = some (.int .i64 f.mine) ∧ w'.cell? ⟨S, 3, none⟩ = some (.int .i64 s.yours)) (go_keep) (fail)
  go_upto_if 62 with fail
  go_cut [] (fun wx => SS (TG F B) S (s.up f) wx ∧ FrB wx B f ∧ KeptF F w wx ∧ B + 1 ≤ wx.heap.size)
  case first =>
    by_cases hy : s.yours < f.mine
    · have y1 : decide (s.yours < f.mine) = true := by simpa using hy
      go_wp2_with fail
      refine (greater_calls (TG F B) S s f.mine _ (show SS _ S s W0.drew from HG0.out.keep (fun k hk _ => ⟨rfl, hk⟩)) hN HOk.out).mono ?_
      rintro e W1 ⟨rfl, hg1, hk1⟩
      have hG1 : SS (TG F B) S (s.up f) W1 := by
        have e : s.up f = s.greater f.mine := by unfold Se.up; rw [if_pos hy]
        rw [e]
        refine hg1.keep (fun k hk _ => ⟨rfl, ?_⟩)
        rcases hk with hk | hk
        · exact hk
        · exact .inr (by have : W0.heap.size ≤ k := hk; omega)
      have hB1 : FrB W1 B f := (hk1.block B (by show B < W0.heap.size; omega) (fun e => by rcases e with e | e; exact absurd e.2 (Nat.lt_irrefl _); omega)).trans HB0.out
      have hK1 : KeptF F w W1 := HK0.out.trans ((KeptF.drew (KeptF.refl _ _)).trans (hk1.mono (fun j _ hj => .inl (by have := HBE.out; rcases hj with hj | hj; exact .inl hj.1; exact .inr (by omega)))))
      have hZ1 : B + 1 ≤ W1.heap.size := by have : W0.heap.size ≤ W1.heap.size := hk1.size; omega
      have H1 := Lib.hid hG1
      have H2 := Lib.hid hB1
      have H3 := Lib.hid hK1
      clear hG1 hB1 hK1 hg1 hk1
      go_wp2
      go_meet
      exact ⟨H1.out, H2.out, H3.out, hZ1⟩
    · have y1 : decide (s.yours < f.mine) = false := by simpa using hy
      have hG1 : SS (TG F B) S (s.up f) W0.drew := by
        have e : s.up f = s := by unfold Se.up; rw [if_neg (by omega)]
        rw [e]
        exact HG0.out.keep (fun k hk _ => ⟨rfl, hk⟩)
      have H1 := Lib.hid hG1
      clear hG1
      go_wp2
      go_meet
      exact ⟨H1.out, HB0.out, HK0.out.drew, by show B + 1 ≤ W0.heap.size; omega⟩
  case rest =>
    obtain ⟨hG1, hB1, hK1, hZ1⟩ := hcut
    obtain ⟨W1, hW1⟩ : ∃ W1, W1 = wc := ⟨_, rfl⟩
    subst hW1
    obtain ⟨s1, hup⟩ : ∃ s1, s.up f = s1 := ⟨_, rfl⟩
    have hok1 : s1.Ok N := hup ▸ HOk.out.up hN64 f
    rw [hup] at hG1
    have HG1 := Lib.hid hG1
    have HB1 := Lib.hid hB1
    have HK1 := Lib.hid hK1
    have HU := Lib.hid hup
    have HO1 := Lib.hid hok1
    clear hG1 hB1 hK1 hup hok1 d0 d1 d2 d3 d4 d5 d6 d7 d8 e0 e1 e2 e3 e4 e5 e6 e7 gFS gFR gFM gS gR gM k1 k2 k3 HG0 HB0 HK0
    go_wp2_with fail
    obtain ⟨R1, M1, gFS, gFR, gFM, gS, gR, gM, k1, k2, k3, gb, gr, gm, d0, d1, d2, d3, d4, d5, d6, d7, d8⟩ := HG1.out.cells
    obtain ⟨e0, e1, e2, e3, e4, e5, e6, e7⟩ := eight_of HB1.out
    have g8 := Lib.frozen_of_heap gb 8
    have GB := Lib.hid gb
    have GR := Lib.hid gr
    have GM := Lib.hid gm
    clear gb gr gm
    have hmine : s1.mine = s.mine := by rw [← HU.out]; exact (s.up_fields f).2.2.1
    have HMI := Lib.hid hmine
    clear hmine
    by_cases hy2 : f.yours = s1.mine
    · have y1 : (f.yours != s1.mine) = false := by rw [hy2]; simp
      have y2 : (f.yours == s1.mine) = true := by rw [hy2]; simp
      have HY2 := Lib.hid hy2
      clear hy2
      go_region_held3 (fun w' => w'.cell? ⟨B, 3, none⟩ = some (.int .i64 f.yours) ∧ w'.cell? ⟨S, 2, none⟩ = some (.int .i64 s1.mine)) (go_keep) (fail)
      go_wp2_with fail
      refine (ringPeek_any _ R1 s1.out _ (show Rg (RF (TG F B) S M1 W1.heap.size) R1 s1.out W1.drew from GR.out.keep (fun k hk _ => ⟨rfl, hk⟩))).mono ?_
      rintro e w2 ⟨rfl, hb2⟩
      have hst : AckSt F B S s1 f w w2.heap.size s1.out (w2.alloc (.cells #[.int .i64 (hdW s1.out).seq, .string (hdW s1.out).data, .bool (hdW s1.out).sent, .int .i64 (hdW s1.out).age] 130)) := by
        have hz2 : W1.heap.size ≤ w2.heap.size := hb2.size
        have hbl : ∀ k, k < W1.heap.size → (w2.alloc (.cells #[.int .i64 (hdW s1.out).seq, .string (hdW s1.out).data, .bool (hdW s1.out).sent, .int .i64 (hdW s1.out).age] 130)).heap[k]? = W1.heap[k]? := fun k hk => (Below.heap_alloc _ _ _ (by omega)).trans (hb2.block k hk)
        refine ⟨HG1.out.keep (fun k hk hlt => ⟨hbl k hlt, hk, by omega⟩), (hbl B (by omega)).trans HB1.out, heap_alloc_new _ _, by omega, (HK1.out.drew.trans (KeptF.ofBelow hb2)).alloc _, rfl, HO1.out.len⟩
      have HST := Lib.hid hst
      have hz2 : W1.heap.size ≤ w2.heap.size := hb2.size
      clear hst hb2 d0 d1 d2 d3 d4 d5 d6 d7 d8 e0 e1 e2 e3 e4 e5 e6 e7 gFS gFR gFM gS gR gM k1 k2 k3 g8 GB GR GM HG1 HB1 HK1
      go_upto_block 0 with fail
      go_cut [6, 7] (fun s6 s7 wx => ∃ V, AckSt F B S s1 f w V (s1.out.dropWhile (fun x => decide (x.seq ≤ f.ack))) wx)
      case first =>
        go_wp2_with fail
        go_loopw [6, 7] (fun s6 s7 wr => ∃ (V : Nat) (l : List Wt), s6 = .pointer (some ⟨V, 0, none⟩) ∧ s7 = .bool (!l.isEmpty) ∧ Hid (AckSt F B S s1 f w V l wr)) (fun _ _ wr => qlen S wr)
        case atStart => exact ⟨_, _, rfl, rfl, HST.out⟩
        case round =>
          clear HST
          obtain ⟨V, l, rfl, rfl, HA⟩ := hrel
          obtain ⟨hss, hfb, hv, hBV, hkk, hdw, hl64⟩ := HA.out
          obtain ⟨R2, M2, gFS, gFR, gFM, gS, gR, gM, k1, k2, k3, gb, gr, gm, d0, d1, d2, d3, d4, d5, d6, d7, d8⟩ := hss.cells
          obtain ⟨e0, e1, e2, e3, e4, e5, e6, e7⟩ := eight_of hfb
          obtain ⟨⟨a0, a1, a2, a3⟩, b0, b1, b2, b3⟩ := four_of hv
          have hql : qlen S wr = l.length := hss.qlen
          have HSS := Lib.hid hss
          have HFB := Lib.hid hfb
          have HV := Lib.hid hv
          have HKK := Lib.hid hkk
          have HDW := Lib.hid hdw
          have HQL := Lib.hid hql
          have GB := Lib.hid gb
          have GR := Lib.hid gr
          have GM := Lib.hid gm
          clear hss hfb hv hkk hdw hql gb gr gm d0 d1 d2 d3 d5 d6 d7 d8 e0 e1 e2 e3 e4 e6 e7
          cases l with
          | nil =>
            go_wp2
            go_meet
            have e := HDW.out
            simp only [List.dropWhile_nil] at e
            rw [← e]
            exact ⟨V, HA.out⟩
          | cons x l =>
            simp only [hdW, List.headD_cons] at a0 a1 a2 a3
            by_cases hx : x.seq ≤ f.ack
            · have x1 : decide (x.seq ≤ f.ack) = true := by simpa using hx
              go_wp2_with fail
              refine (ringPop_calls (RF (fun j => TG F B j ∧ j ≠ V) S M2 wr.heap.size) R2 x l _ GR.out (by simp only [List.length_cons] at hl64; omega)).mono ?_
              rintro e w3 ⟨⟨v, rfl⟩, hr3, hk3⟩
              have hz3 : wr.heap.size ≤ w3.heap.size := hk3.size
              have hVl : V < wr.heap.size := lt_of_heap HV.out
              have hBl : B < wr.heap.size := lt_of_heap HFB.out
              have hV3 := (hk3.block V hVl (fun e => e.1.2 rfl)).trans HV.out
              have hB3 := (hk3.block B hBl (fun e => by rcases e.1.1 with e | e; exact absurd e.2 (Nat.lt_irrefl _); omega)).trans HFB.out
              have hS3 := (hk3.block S gS (fun e => e.2.1 rfl)).trans GB.out
              have hM3 := hk3.block M2 gM (fun e => e.2.2.1 rfl)
              simp only [hdW, List.headD_cons] at hV3
              obtain ⟨⟨q0, q1, q2, q3⟩, r0, r1, r2, r3⟩ := four_of hV3
              have d4 : w3.cell? ⟨S, 4, none⟩ = some (.pointer (some ⟨R2, 0, none⟩)) := by rw [Lib.cell_of_heap hS3]; rfl
              have hSl : S < w3.heap.size := by omega
              have HR3 := Lib.hid hr3
              have HB3 := Lib.hid hB3
              have HS3 := Lib.hid hS3
              have HM3 := Lib.hid hM3
              have HK3 := Lib.hid hk3
              clear hr3 hV3 hB3 hS3 hM3 hk3 HV
              go_wp2_with fail
              refine (ringPeek_any _ R2 l _ (HR3.out.keep (G := fun _ => True) (fun k hk hlt => ⟨Below.heap_alloc _ _ _ hlt, trivial⟩))).mono ?_
              rintro e w4 ⟨rfl, hb4⟩
              have hz4 : w3.heap.size + 1 ≤ w4.heap.size := by have := hb4.size; simpa using this
              have o4 : ∀ k, k < w3.heap.size → w4.heap[k]? = w3.heap[k]? := fun k hk => (hb4.block k (by simp; omega)).trans (Below.heap_alloc _ _ _ hk)
              have v4 := (hb4.block w3.heap.size (by simp)).trans (heap_alloc_new _ _)
              have k4 : KeptF F w w4 := ((HKK.out.trans (HK3.out.mono (fun j _ hj => by have := HBE.out; rcases hj.1.1 with hj | hj; exact .inl hj.1; exact .inr (by omega)))).alloc _).trans (KeptF.ofBelow hb4)
              obtain ⟨⟨q0, q1, q2, q3⟩, r0, r1, r2, r3⟩ := four_of v4
              have O4 := Lib.hid o4
              have V4 := Lib.hid v4
              have K4 := Lib.hid k4
              clear hb4 o4 v4 k4
              generalize hVe : w3.heap.size = V2 at *
              have HVE := Lib.hid hVe
              clear hVe
              go_wp2
              have hnew : AckSt F B S s1 f w V2 l ((((w4.setCell ⟨V2, 0, none⟩ (.int .i64 (hdW l).seq)).setCell ⟨V2, 1, none⟩ (.string (hdW l).data)).setCell ⟨V2, 2, none⟩ (.bool (hdW l).sent)).setCell ⟨V2, 3, none⟩ (.int .i64 (hdW l).age)) := by
                have hb : ∀ k, k < V2 → ((((w4.setCell ⟨V2, 0, none⟩ (.int .i64 (hdW l).seq)).setCell ⟨V2, 1, none⟩ (.string (hdW l).data)).setCell ⟨V2, 2, none⟩ (.bool (hdW l).sent)).setCell ⟨V2, 3, none⟩ (.int .i64 (hdW l).age)).heap[k]? = w3.heap[k]? := fun k hk => (heap_set4_other _ _ _ _ _ _ _ (by omega)).trans (O4.out k hk)
                refine ⟨⟨R2, M2, ⟨gFS.1, by omega⟩, (hb S hSl).trans HS3.out, ?_, ?_⟩, (hb B (by omega)).trans HB3.out, heap_set4 V4.out, by omega, ?_, ?_, by simp only [List.length_cons] at hl64; omega⟩
                · refine HR3.out.keep (fun k hk hlt => ?_)
                  have := HVE.out
                  refine ⟨hb k (by omega), ?_, by omega⟩
                  rcases hk with hk | hk
                  · exact hk.1.1
                  · exact .inr (by omega)
                · refine GM.out.keep (fun k hk hlt => ⟨?_, by rw [hk]; exact ⟨gFM.1, by omega⟩⟩)
                  rw [hk, hb M2 (by omega)]
                  exact HM3.out
                · have hge : w.heap.size ≤ V2 := by have := HBE.out; omega
                  exact (((K4.out.setCell (.inr hge) _).setCell (.inr hge) _).setCell (.inr hge) _).setCell (.inr hge) _
                · have e := HDW.out
                  rw [List.dropWhile_cons, if_pos (by simp [x1])] at e
                  exact e
              have HNEW := Lib.hid hnew
              clear hnew
              go_roundw
              case rel => exact ⟨V2, l, rfl, rfl, HNEW.out⟩
              case measure =>
                have e1 := HNEW.out.1.qlen
                have e2 := HQL.out
                simp only [List.length_cons] at e2
                have e3 : qlen S ((((w4.setCell ⟨V2, 0, none⟩ (.int .i64 (hdW l).seq)).setCell ⟨V2, 1, none⟩ (.string (hdW l).data)).setCell ⟨V2, 2, none⟩ (.bool (hdW l).sent)).setCell ⟨V2, 3, none⟩ (.int .i64 (hdW l).age)) = l.length := e1
                rw [e2]
                omega
            · have x1 : decide (x.seq ≤ f.ack) = false := by simpa using hx
              go_wp2
              go_meet
              have e := HDW.out
              rw [List.dropWhile_cons, if_neg (by simp [x1])] at e
              rw [← e]
              exact ⟨V, HA.out⟩
      case rest =>
        clear HST y1 y2 hz2 hZ1 hZ0 p0 q0 p1 q1 p2 p3 p4
        obtain ⟨V, hA⟩ := hcut
        obtain ⟨s2, hs2⟩ : ∃ s2, s1.ackd f.ack = s2 := ⟨_, rfl⟩
        have ho2 : s2.Ok N := hs2 ▸ HO1.out.ackd f.ack
        obtain ⟨hss, hfb, hv, hBV, hkk, hdw, hl64⟩ := hA
        have hss2 : SS (fun j => TG F B j ∧ j ≠ V) S s2 wc := hs2 ▸ hss
        clear hss hv hdw hl64
        obtain ⟨R2, M2, gFS, gFR, gFM, gS, gR, gM, k1, k2, k3, gb, gr, gm, d0, d1, d2, d3, d4, d5, d6, d7, d8⟩ := hss2.cells
        obtain ⟨e0, e1, e2, e3, e4, e5, e6, e7⟩ := eight_of hfb
        have g8 := Lib.frozen_of_heap gb 8
        have HS2 := Lib.hid hs2
        have HO2 := Lib.hid ho2
        have HSS := Lib.hid hss2
        have HFB := Lib.hid hfb
        have HKK := Lib.hid hkk
        have GB := Lib.hid gb
        have GR := Lib.hid gr
        have GM := Lib.hid gm
        clear hs2 ho2 hss2 hfb hkk gb gr gm
        have hTG : ∀ k, TG F B k → F k ∨ w.heap.size ≤ k := fun k hk => by
          have := HBE.out
          rcases hk with hk | hk
          · exact .inl hk.1
          · exact .inr (by omega)
        have HTG := Lib.hid hTG
        clear hTG
        cases hhas : f.has with
        | false =>
          have HH := Lib.hid hhas
          rw [hhas] at e7
          clear hhas
          go_wp2
          go_ret2
          refine TakeEnd.mk (v := .slice none 0 0) (t := (([], true), s2)) (G := fun j => TG F B j ∧ j ≠ V) ?_ (World.ownsRow_nil _ _ _ _) (by simp [Value.ownBlock]) (fun k hk => HTG.out k hk.1) HSS.out HKK.out
          rw [← HS2.out, ← HU.out]
          unfold Se.take
          rw [if_neg (by rw [HBAD.out]; simp), if_neg (fun e => e (HY2.out.trans HMI.out)), if_pos HH.out]
        | true =>
          have HH := Lib.hid hhas
          rw [hhas] at e7
          clear hhas
          go_wp2_with fail
          obtain ⟨W3, hW3⟩ : ∃ W3, W3 = wc.setCell ⟨S, 8, none⟩ (.bool true) := ⟨_, rfl⟩
          rw [← hW3]
          have o3 : ∀ k, k ≠ S → W3.heap[k]? = wc.heap[k]? := fun k hk => by rw [hW3]; exact heap_setCell_other _ _ _ _ hk
          have b3' : W3.heap[S]? = some (.cells (SC R2 M2 s2.owe) 133 (0, 0)) := by
            rw [hW3, heap_setCell_same _ _ _ _ _ _ GB.out]
            rfl
          have z3 : W3.heap.size = wc.heap.size := by rw [hW3]; simp
          have kk3 : KeptF F w W3 := by rw [hW3]; exact HKK.out.setCell (HTG.out S gFS.1) _
          have ss3 : SS (fun j => TG F B j ∧ j ≠ V) S s2.owe W3 := by
            refine ⟨R2, M2, gFS, b3', GR.out.keep (fun k hk _ => ⟨o3 k hk.2.1, hk.1⟩), GM.out.keep (fun k hk _ => ?_)⟩
            rw [hk]
            exact ⟨o3 M2 k2, gFM⟩
          have fb3 : FrB W3 B f := (o3 B (fun e => by rw [← e] at gFS; rcases gFS.1 with e | e; exact absurd e.2 (Nat.lt_irrefl _); omega)).trans HFB.out
          have mp3 : Mp (fun k => k = M2) M2 s2.ahead W3 := GM.out.keep (fun k hk _ => ⟨by rw [hk]; exact o3 M2 k2, hk⟩)
          have hwf : (intKey f.seq).wf = true := wf_int _ (by omega) (by omega)
          have hlook : ∀ nq, (Instr.lookup 131 (.map (some M2)) (.int .i64 f.seq) true).run Tryd.prog (W3.drewN nq) = .ok (.tuple #[.string ((s2.ahead f.seq).getD ⟨#[]⟩), .bool (s2.ahead f.seq).isSome]) (W3.drewN nq) :=
            fun nq => Mp.look (F := fun k => k = M2) (m := s2.ahead) (w := W3.drewN nq) (mp3.keep (fun k hk _ => ⟨rfl, hk⟩)) f.seq hwf
          obtain ⟨⟨d0, d1, d2, d3, d4, d5, d6, d7, d8⟩, df⟩ := nine_of b3'
          obtain ⟨e0, e1, e2, e3, e4, e5, e6, e7⟩ := eight_of fb3
          have O3 := Lib.hid o3
          have B3 := Lib.hid b3'
          have KK3 := Lib.hid kk3
          have SS3 := Lib.hid ss3
          have FB3 := Lib.hid fb3
          have MP3 := Lib.hid mp3
          clear o3 b3' kk3 ss3 fb3 mp3 hW3 df HSS HFB HKK GB GR GM g8
          have d6 : W3.cell? ⟨S, 6, none⟩ = some (.int .i64 s2.heard) := d6
          have hh0 := HO2.out.heard.1
          have hh1 := HO2.out.heard.2
          go_quiet (fail)
          generalize hW4 : W3.drewN _ = W4
          have x6 : W4.cell? ⟨S, 6, none⟩ = some (.int .i64 s2.heard) := by rw [← hW4]; exact d6
          have x4 : W4.cell? ⟨B, 4, none⟩ = some (.int .i64 f.seq) := by rw [← hW4]; exact e4
          have HW4 := Lib.hid (show ∀ k : Nat, W4.heap[k]? = W3.heap[k]? from fun k => by rw [← hW4]; rfl)
          have HZ4 := Lib.hid (show W4.heap.size = W3.heap.size from by rw [← hW4]; rfl)
          have HK4 := Lib.hid (show KeptF F w W4 from by rw [← hW4]; exact KK3.out.drewN _)
          clear hW4 d0 d1 d2 d3 d4 d5 d6 d7 d8 e0 e1 e2 e3 e4 e5 e6 e7 hlook
          generalize hc : (s2.ahead f.seq).isSome = c
          have HC := Lib.hid hc
          clear hc
          generalize ((s2.ahead f.seq).getD ⟨#[]⟩) = cd
          go_upto_region 18 with fail
          go_cut [144] (fun s144 wx => s144 = .bool (PutB c s2.heard f.seq) ∧ ∃ m, wx = W4.drewN m)
          case first =>
            have hw1 : IntKind.i64.wrap (f.seq - s2.heard) = f.seq - s2.heard := IntWalk.i64_in _ (by omega)
            have hw2 : IntKind.i64.wrap (f.seq - s2.heard - 1) = f.seq - s2.heard - 1 := IntWalk.i64_in _ (by omega)
            cases c with
            | true =>
              go_quiet (fail)
              go_wp2
              go_meet
              exact ⟨congrArg Value.bool (show false = PutB true s2.heard f.seq from (decide_eq_false (by simp)).symm), _, rfl⟩
            | false =>
              by_cases h1 : s2.heard < f.seq
              · have h1b : decide (s2.heard < f.seq) = true := by simpa using h1
                by_cases h2 : f.seq - s2.heard - 1 ≤ 64
                · have h2b : decide (f.seq - s2.heard - 1 ≤ 64) = true := by simpa using h2
                  go_quiet (fail)
                  go_wp2
                  go_meet
                  exact ⟨congrArg Value.bool (show true = PutB false s2.heard f.seq from (decide_eq_true ⟨rfl, h1, h2⟩).symm), _, rfl⟩
                · have h2b : decide (f.seq - s2.heard - 1 ≤ 64) = false := by simp; omega
                  go_quiet (fail)
                  go_wp2
                  go_meet
                  exact ⟨congrArg Value.bool (show false = PutB false s2.heard f.seq from (decide_eq_false (fun e => by have := e.2.2; omega)).symm), _, rfl⟩
              · have h1b : decide (s2.heard < f.seq) = false := by simp; omega
                go_quiet (fail)
                go_wp2
                go_meet
                exact ⟨congrArg Value.bool (show false = PutB false s2.heard f.seq from (decide_eq_false (fun e => by have := e.2.1; omega)).symm), _, rfl⟩
          case rest =>
            obtain ⟨rfl, m, hwc⟩ := hcut
            obtain ⟨W5, hW5⟩ : ∃ W5, W5 = wc := ⟨_, rfl⟩
            subst hW5
            have o5 : ∀ k : Nat, W5.heap[k]? = W3.heap[k]? := fun k => by rw [hwc]; exact HW4.out k
            have z5 : W5.heap.size = W3.heap.size := by rw [hwc]; exact HZ4.out
            have kk5 : KeptF F w W5 := by rw [hwc]; exact HK4.out.drewN _
            clear hwc x6 x4 HW4 HZ4 HK4
            have ss5 : SS (fun j => TG F B j ∧ j ≠ V) S s2.owe W5 := SS3.out.keep (fun k hk _ => ⟨o5 k, hk⟩)
            have fb5 : FrB W5 B f := (o5 B).trans FB3.out
            have mp5 : Mp (fun k => k = M2) M2 s2.ahead W5 := MP3.out.keep (fun k hk _ => ⟨o5 k, hk⟩)
            have b5 := (o5 S).trans B3.out
            obtain ⟨⟨d0, d1, d2, d3, d4, d5, d6, d7, d8⟩, df⟩ := nine_of b5
            obtain ⟨e0, e1, e2, e3, e4, e5, e6, e7⟩ := eight_of fb5
            have hSl : S < W5.heap.size := lt_of_heap b5
            have hMl : M2 < W5.heap.size := mp5.lt
            have hBl : B < W5.heap.size := lt_of_heap fb5
            have SS5 := Lib.hid ss5
            have FB5 := Lib.hid fb5
            have MP5 := Lib.hid mp5
            have B5 := Lib.hid b5
            have KK5 := Lib.hid kk5
            clear ss5 fb5 mp5 b5 kk5 o5 z5 df SS3 FB3 MP3 B3 KK3 O3
            obtain ⟨pb, hpb⟩ : ∃ pb, PutB c s2.heard f.seq = pb := ⟨_, rfl⟩
            rw [hpb]
            have HPB := Lib.hid hpb
            clear hpb
            go_upto_if 144 with fail
            go_cut [] (fun wx => SS (fun j => TG F B j ∧ j ≠ V) S (s2.owe.put f) wx ∧ FrB wx B f ∧ KeptF F w wx)
            case first =>
              cases pb with
              | true =>
                have hput : (s2.owe.ahead f.seq).isNone ∧ s2.owe.heard < f.seq ∧ f.seq - s2.owe.heard - 1 ≤ 64 := by
                  have e := of_decide_eq_true HPB.out
                  refine ⟨?_, e.2⟩
                  have := HC.out
                  rw [e.1] at this
                  show (s2.ahead f.seq).isNone = true
                  cases hq : s2.ahead f.seq with
                  | none => rfl
                  | some d => rw [hq] at this; cases this
                have hpe : s2.owe.put f = { s2.owe with ahead := putAhead s2.ahead f.seq f.data } := by
                  unfold Se.put
                  rw [if_pos hput]
                  rfl
                have HPE := Lib.hid hpe
                clear hput hpe
                go_wp2_with fail
                go_region_held3 (fun w' => w'.cell? ⟨S, 7, none⟩ = some (.map (some M2)) ∧ w'.cell? ⟨B, 4, none⟩ = some (.int .i64 f.seq) ∧ w'.cell? ⟨B, 6, none⟩ = some (.string f.data)) (go_keep)
                  (first
                    | (go_at_call 62; (refine (cloneS_calls f.data _ (by omega)).mono ?_); rintro r w6 ⟨rfl, hb6⟩;
                        have g7 : w6.cell? ⟨S, 7, none⟩ = some (.map (some M2)) := (by rw [hb6.cell (p := ⟨S, 7, none⟩) (by simpa using hSl)]; go_simp);
                        have g4 : w6.cell? ⟨B, 4, none⟩ = some (.int .i64 f.seq) := (by rw [hb6.cell (p := ⟨B, 4, none⟩) (by simpa using hBl)]; go_simp);
                        have g6 : w6.cell? ⟨B, 6, none⟩ = some (.string f.data) := (by rw [hb6.cell (p := ⟨B, 6, none⟩) (by simpa using hBl)]; go_simp);
                        obtain ⟨w7, hrun, hm7, hg7⟩ := (MP5.out.keep (w' := w6) (fun k hk hlt => ⟨hb6.block k (by simpa using hlt), hk⟩)).store (a := s2.heard) (fun x d hx => by have := HO2.out.ahead x d hx; omega) f.seq hwf f.data (by unfold maxLen; omega);
                        have S7 := (hg7.block S (Nat.lt_of_lt_of_le hSl hb6.size) (fun e => k2 (by injection e with e; exact e.symm))).trans ((hb6.block S (by simpa using hSl)).trans B5.out);
                        have F7 := (hg7.block B (Nat.lt_of_lt_of_le hBl hb6.size) (fun e => by injection e with e; rw [← e] at gFM; rcases gFM.1 with e | e; exact absurd e.2 (Nat.lt_irrefl _); omega)).trans ((hb6.block B (by simpa using hBl)).trans FB5.out);
                        obtain ⟨-, -, -, -, x4, -, x6, -⟩ := eight_of F7;
                        obtain ⟨⟨-, -, -, -, -, -, -, x7, -⟩, -⟩ := nine_of S7;
                        have HS7 := Lib.hid S7; have HF7 := Lib.hid F7;
                        have HM7 := Lib.hid hm7; have HG7 := Lib.hid hg7; have HB6 := Lib.hid hb6; clear hm7 hg7 hb6)
                    | fail)
                have hb6' : Below W5.heap.size W5 w6 := ⟨HB6.out.os, HB6.out.tape, HB6.out.output, HB6.out.size, HB6.out.block⟩
                have hk7 : KeptF F w w7 := (KK5.out.trans (KeptF.ofBelow hb6')).grown HG7.out (fun k e => by injection e with e; rw [← e]; exact HTG.out M2 gFM.1)
                have hs7 : SS (fun j => TG F B j ∧ j ≠ V) S (s2.owe.put f) w7 := by
                  rw [HPE.out]
                  obtain ⟨R3, M3, gFS', gFR', gFM', gS', gR', gM', l1, l2, l3, gb', gr', gm', -, -, -, -, -, -, -, -, -⟩ := SS5.out.cells
                  have eRM : R3 = R2 ∧ M3 = M2 := by
                    have := gb'.symm.trans B5.out
                    simp [SC] at this
                    exact this
                  obtain ⟨rfl, rfl⟩ := eRM
                  refine ⟨R3, M3, gFS', HS7.out, ?_, ?_⟩
                  · refine gr'.keep (fun k hk hlt => ⟨?_, hk.1⟩)
                    rw [HG7.out.block k (Nat.lt_of_lt_of_le hlt hb6'.size) (fun e => hk.2.2.1 (by injection e))]
                    exact hb6'.block k hlt
                  · exact HM7.out.keep (fun k hk _ => ⟨rfl, by rw [hk]; exact gFM'⟩)
                have H1 := Lib.hid hs7
                have H2 := Lib.hid hk7
                clear hs7 hk7 hb6' hrun x4 x6 x7
                go_wp2
                go_meet
                exact ⟨H1.out, HF7.out, H2.out⟩
              | false =>
                have hpe : s2.owe.put f = s2.owe := by
                  unfold Se.put
                  rw [if_neg]
                  intro e
                  have h1 := of_decide_eq_false HPB.out
                  apply h1
                  refine ⟨?_, e.2⟩
                  have e1 : (s2.ahead f.seq).isNone = true := e.1
                  have := HC.out
                  cases hq : s2.ahead f.seq with
                  | none => rw [hq] at this; exact this.symm
                  | some d => rw [hq] at e1; cases e1
                have HPE := Lib.hid hpe
                clear hpe
                go_wp2
                go_meet
                rw [HPE.out]
                exact ⟨SS5.out, FB5.out, KK5.out⟩
            case rest =>
              obtain ⟨hs6, hfb6, hk6⟩ := hcut
              obtain ⟨s3, hs3⟩ : ∃ s3, s2.owe.put f = s3 := ⟨_, rfl⟩
              rw [hs3] at hs6
              obtain ⟨q1', q2', q3', q4', q5', q6', q7', q8'⟩ := s2.owe.put_fields f
              rw [hs3] at q1' q2' q3' q4' q5' q6' q7' q8'
              have hH0 : 0 ≤ s3.heard := by rw [q8']; exact hh0
              have hH1 : s3.heard ≤ 1000000 := by rw [q8']; show s2.heard ≤ 1000000; omega
              have hah : ∀ x d, s3.ahead x = some d → x ≤ s3.heard + 66 ∧ d.size ≤ 3000 := by
                intro x d hx
                rw [← hs3] at hx
                rw [q8']
                show x ≤ s2.heard + 66 ∧ _
                rcases s2.owe.put_ahead f x d hx with hx | ⟨rfl, rfl, h1, h2⟩
                · have := HO2.out.ahead x d hx
                  exact ⟨by omega, this.2.2.2⟩
                · have h3 : f.seq ≤ s2.heard + 65 := h2
                  exact ⟨by omega, hds⟩
              have HAH := Lib.hid hah
              have HS6 := Lib.hid hs6
              have HK6 := Lib.hid hk6
              have HS3 := Lib.hid hs3
              clear hah hs6 hk6 hs3 hfb6 q1' q2' q3' q4' q5' q6' q7' q8' d0 d1 d2 d3 d4 d5 d6 d7 d8 e0 e1 e2 e3 e4 e5 e6 e7 SS5 FB5 MP5 B5 KK5 hSl hMl hBl HPB HC hwf gFS gFR gFM gS gR gM k1 k2 k3
              obtain ⟨W8, hW8⟩ : ∃ W8, W8 = wc := ⟨_, rfl⟩
              subst hW8
              go_wp2_with fail
              go_loopw [10] (fun s10 wr => ∃ (q : Value) (told : List ByteArray) (sk : Se) (j : Nat), s10 = q ∧ j + told.length = 66 ∧ sk.heard = s3.heard + told.length ∧
                  Hid (wr.ownsRow 0 9 1 q told.length (strC told)) ∧ Hid (∀ k, q.ownBlock = some k → w.heap.size ≤ k) ∧ Hid (SS (fun i => TG F B i ∨ w.heap.size ≤ i) S sk wr) ∧ Hid (KeptF F w wr) ∧
                  Hid (tellN 66 s3 = (told ++ (tellN j sk).1, (tellN j sk).2)) ∧ Hid (∀ x d, sk.ahead x = some d → x ≤ sk.heard + j ∧ d.size ≤ 3000)) (fun _ wr => (s3.heard + 66 - hOf S wr).toNat)
              case atStart =>
                refine ⟨_, [], s3, 66, rfl, rfl, by simp, Lib.hid (World.ownsRow_nil _ _ _ _), Lib.hid (by simp [Value.ownBlock]), Lib.hid (HS6.out.keep (fun k hk _ => ⟨rfl, .inl hk.1⟩)), HK6, Lib.hid (by simp), HAH⟩
              case round =>
                obtain ⟨q, told, sk, j, rfl, hj, hsk, HQ, HQB, HSk, HKk, HT, HA⟩ := hrel
                obtain ⟨R4, M4, gFS, gFR, gFM, gS, gR, gM, k1, k2, k3, gb, gr, gm, d0, d1, d2, d3, d4, d5, d6, d7, d8⟩ := (HSk.out.without HQ.out).cells
                have g6 := Lib.frozen_of_heap gb 6
                have hho : hOf S wr = sk.heard := by unfold hOf; rw [d6]; rfl
                have hb0 : 0 ≤ sk.heard := by omega
                have hb1 : sk.heard ≤ 1000066 := by omega
                have HSK := Lib.hid hsk
                have HJ := Lib.hid hj
                clear hsk hj
                have hw1 : IntKind.i64.wrap (sk.heard + 1) = sk.heard + 1 := IntWalk.i64_in _ (by omega)
                have hwf : (intKey (sk.heard + 1)).wf = true := wf_int _ (by omega) (by omega)
                have hlook : ∀ nq, (Instr.lookup 131 (.map (some M4)) (.int .i64 (sk.heard + 1)) true).run Tryd.prog (wr.drewN nq) = .ok (.tuple #[.string ((sk.ahead (sk.heard + 1)).getD ⟨#[]⟩), .bool (sk.ahead (sk.heard + 1)).isSome]) (wr.drewN nq) :=
                  fun nq => Mp.look (F := fun k => k = M4) (m := sk.ahead) (w := wr.drewN nq) (gm.keep (fun k hk _ => ⟨rfl, hk⟩)) (sk.heard + 1) hwf
                have HHO := Lib.hid hho
                have GB := Lib.hid gb
                have GR := Lib.hid gr
                have GM := Lib.hid gm
                clear hho gb gr gm d0 d1 d2 d3 d4 d5 d8
                cases hm : sk.ahead (sk.heard + 1) with
                | none =>
                  rw [hm] at hlook
                  simp only [Option.getD_none, Option.isSome_none] at hlook
                  have HM := Lib.hid hm
                  clear hm
                  go_wp2_with fail
                  go_quiet (fail)
                  go_wp2
                  go_ret2
                  refine TakeEnd.mk (t := ((told, true), sk)) (G := fun i => TG F B i ∨ w.heap.size ≤ i) ?_ HQ.out HQB.out (fun k hk => by rcases hk with hk | hk; exact HTG.out k hk; exact .inr hk) (HSk.out.drewN _) (HKk.out.drewN _)
                  have e1 : tellN j sk = ([], sk) := by
                    cases j with
                    | zero => rfl
                    | succ j => unfold tellN; rw [HM.out]
                  have e2 := HT.out
                  rw [e1, List.append_nil] at e2
                  have e3 : ((s.up f).ackd f.ack).owe.put f = s3 := by rw [HU.out, HS2.out]; exact HS3.out
                  unfold Se.take
                  rw [if_neg (by rw [HBAD.out]; simp), if_neg (fun e => e (HY2.out.trans HMI.out)), if_neg (by rw [HH.out]; simp), e3, e2]
                | some d =>
                  rw [hm] at hlook
                  simp only [Option.getD_some, Option.isSome_some] at hlook
                  have HM := Lib.hid hm
                  clear hm
                  obtain ⟨i0, hi, hz0, hz1, hz2⟩ := info_parts Tryd.info9w
                  have hj1 : 1 ≤ j ∧ d.size ≤ 3000 := by have := HA.out _ _ HM.out; exact ⟨by omega, this.2⟩
                  have HJ1 := Lib.hid hj1
                  have hn1 : told.length + 1 ≤ 66 := by have := HJ.out; omega
                  clear hj1
                  go_wp2_with fail
                  go_quiet (fail)
                  generalize hW9 : wr.drewN _ = W9
                  have o9 : ∀ k : Nat, W9.heap[k]? = wr.heap[k]? := fun k => by rw [← hW9]; rfl
                  have z9 : W9.heap.size = wr.heap.size := by rw [← hW9]; rfl
                  have kk9 : KeptF F w W9 := by rw [← hW9]; exact HKk.out.drewN _
                  have mp9 : Mp (fun k => k = M4) M4 sk.ahead W9 := GM.out.keep (fun k hk _ => ⟨o9 k, hk⟩)
                  have b9 := (o9 S).trans GB.out
                  obtain ⟨⟨-, -, -, -, -, -, d6', d7', -⟩, -⟩ := nine_of b9
                  have hSl : S < W9.heap.size := lt_of_heap b9
                  have hMl : M4 < W9.heap.size := mp9.lt
                  have O9 := Lib.hid o9
                  have KK9 := Lib.hid kk9
                  have MP9 := Lib.hid mp9
                  have B9 := Lib.hid b9
                  clear hW9 o9 kk9 mp9 b9 d6 d7 g6 hlook
                  go_wp2_with fail
                  go_region_held3 (fun w' => w'.cell? ⟨S, 7, none⟩ = some (.map (some M4)) ∧ w'.cell? ⟨S, 6, none⟩ = some (.int .i64 sk.heard)) (go_keep)
                    ((refine step_delete (by rfl) (.tmp 173) (.tmp 178) (by rfl) (F := fun k => k = M4) (M := M4) (mp := sk.ahead) (by exact MP9.out.keep (fun k hk _ => ⟨rfl, hk⟩)) (sk.heard + 1) hwf (by rfl) (by rfl) ?_; intro w5 hm5 hg5;
                      have S5 := (hg5.block S hSl (fun e => k2 (by injection e with e; exact e.symm))).trans B9.out;
                      obtain ⟨⟨-, -, -, -, -, -, x6, x7, -⟩, xf⟩ := nine_of S5;
                      have y6 := xf 6;
                      have HS5 := Lib.hid S5; have HM5 := Lib.hid hm5; have HG5 := Lib.hid hg5; clear hm5 hg5 S5 xf))
                  go_wp2_with (at_builtin; refine wpList_append_src _ rfl (.tmp 186) (.tmp 188) 115 rfl 9 i0 (.string ⟨#[]⟩) 1 16 Tryd.underlying115 hi hz0 hz1 hz2 rfl (by decide) u10 told.length (strC told) rfl ?c0 (.slice (some ⟨w5.heap.size, 0, none⟩) 1 1) 1 [.string d] rfl ?c1 (by simp [Value.oneCell']) ?c2 ?c3 ?_)
                  case c0 =>
                    refine ownsRow_keep HQ.out (fun k e => ?_)
                    have hk := (HQ.out.lt k e).2
                    have h1 : k ≠ S := by rintro rfl; exact gFS.2 e
                    have h2 : k ≠ M4 := by rintro rfl; exact gFM.2 e
                    have hz5 := HG5.out.size
                    rw [Below.heap_alloc _ _ _ (by simp; simp at hz5; omega), heap_setCell_other _ _ _ _ h1]
                    exact (HG5.out.block k (by show k < W9.heap.size; omega) (fun e' => h2 (by injection e'))).trans (O9.out k)
                  case c1 =>
                    refine ⟨rfl, .inr ⟨_, 1, rfl, ?_⟩⟩
                    intro i u hu
                    rw [Addr.add_mid, Nat.zero_add, Lib.cell_of_heap (heap_new_at _ _ _ (by simp))]
                    simpa using hu
                  case c2 => unfold maxLen; omega
                  case c3 => omega
                  intro v' w7 ho7 hg7 hw7
                  obtain ⟨A7, c7, rfl⟩ := own_slice _ ho7
                  have hz5 : W9.heap.size ≤ w5.heap.size := HG5.out.size
                  have hz7 : w5.heap.size + 1 ≤ w7.heap.size := by have := hg7.size; simpa using this
                  have e7 : ∀ k, k < wr.heap.size → k ≠ S → k ≠ M4 → u10.ownBlock ≠ some k → w7.heap[k]? = wr.heap[k]? := fun k h1 h2 h3 h4 =>
                    (hg7.block k (by simp; omega) (fun e => h4 e.symm)).trans ((Below.heap_alloc _ _ _ (by simp; omega)).trans ((heap_setCell_other _ _ _ _ h2).trans ((HG5.out.block k (by show k < W9.heap.size; omega) (fun e' => h3 (by injection e'))).trans (O9.out k))))
                  have s7 : w7.heap[S]? = some (.cells (SC R4 M4 { sk with ahead := delAhead sk.ahead (sk.heard + 1), heard := sk.heard + 1 }) 133 (0, 0)) := by
                    rw [hg7.block S (by simp; omega) (fun e => gFS.2 e.symm), Below.heap_alloc _ _ _ (by simp; omega), heap_setCell_same _ _ _ _ _ _ HS5.out]
                    rfl
                  have m7 : w7.heap[M4]? = w5.heap[M4]? := by
                    rw [hg7.block M4 (by simp; omega) (fun e => gFM.2 e.symm), Below.heap_alloc _ _ _ (by simp; omega), heap_setCell_other _ _ _ _ k2]
                  have hFS' : F S ∨ w.heap.size ≤ S := by rcases gFS.1 with hk | hk; exact HTG.out S hk; exact .inr hk
                  have hFM' : F M4 ∨ w.heap.size ≤ M4 := by rcases gFM.1 with hk | hk; exact HTG.out M4 hk; exact .inr hk
                  have kk7 : KeptF F w w7 := by
                    refine KeptF.grown (KeptF.alloc (KeptF.setCell (KeptF.grown KK9.out.drew HG5.out (fun k e => by injection e with e; rw [← e]; exact hFM')) hFS' _) _) hg7 ?_
                    intro k e
                    exact .inr (HQB.out k e)
                  have ss7 : SS (fun i => TG F B i ∨ w.heap.size ≤ i) S { sk with ahead := delAhead sk.ahead (sk.heard + 1), heard := sk.heard + 1 } w7 := by
                    refine ⟨R4, M4, gFS.1, s7, ?_, ?_⟩
                    · refine GR.out.keep (fun k hk hlt => ⟨e7 k hlt hk.2.1 hk.2.2.1 hk.1.2, hk.1.1⟩)
                    · exact HM5.out.keep (fun k hk _ => ⟨by rw [hk]; exact m7, by rw [hk]; exact gFM.1⟩)
                  have qb7 : ∀ k, (Value.slice A7 (told.length + 1) c7).ownBlock = some k → w.heap.size ≤ k := by
                    intro k e
                    rcases hw7 k e with e | e
                    · exact HQB.out k e
                    · have := KK9.out.size
                      omega
                  have qr7 : w7.ownsRow 0 9 1 (Value.slice A7 (told.length + 1) c7) (told ++ [d]).length (strC (told ++ [d])) := by
                    rw [strC_append, List.length_append]
                    exact ho7
                  have ht7 : tellN 66 s3 = ((told ++ [d]) ++ (tellN (j - 1) { sk with ahead := delAhead sk.ahead (sk.heard + 1), heard := sk.heard + 1 }).1, (tellN (j - 1) { sk with ahead := delAhead sk.ahead (sk.heard + 1), heard := sk.heard + 1 }).2) := by
                    rw [HT.out]
                    obtain ⟨j', rfl⟩ : ∃ j', j = j' + 1 := ⟨j - 1, by have := HJ1.out.1; omega⟩
                    have e1 : tellN (j' + 1) sk = (d :: (tellN j' { sk with ahead := delAhead sk.ahead (sk.heard + 1), heard := sk.heard + 1 }).1, (tellN j' { sk with ahead := delAhead sk.ahead (sk.heard + 1), heard := sk.heard + 1 }).2) := by
                      conv => lhs; unfold tellN
                      rw [HM.out]
                    rw [e1]
                    simp
                  have ha7 : ∀ x e, ({ sk with ahead := delAhead sk.ahead (sk.heard + 1), heard := sk.heard + 1 } : Se).ahead x = some e → x ≤ sk.heard + 1 + ((j - 1 : Nat) : Int) ∧ e.size ≤ 3000 := by
                    intro x e hx
                    simp only [delAhead] at hx
                    split at hx
                    · cases hx
                    · have := HA.out x e hx
                      have := HJ1.out.1
                      exact ⟨by omega, by omega⟩
                  have E1 := Lib.hid qr7
                  have E2 := Lib.hid qb7
                  have E3 := Lib.hid ss7
                  have E4 := Lib.hid kk7
                  have E5 := Lib.hid ht7
                  have E6 := Lib.hid ha7
                  clear qr7 qb7 ss7 kk7 ht7 ha7 s7 m7 e7 ho7 hg7 hw7
                  go_wp2
                  go_roundw
                  case rel =>
                    refine ⟨_, told ++ [d], { sk with ahead := delAhead sk.ahead (sk.heard + 1), heard := sk.heard + 1 }, j - 1, rfl, ?_, ?_, E1, E2, E3, E4, E5, E6⟩
                    · have := HJ.out; have := HJ1.out.1; simp; omega
                    · have := HSK.out; simp; omega
                  case measure =>
                    have e1 : hOf S w7 = sk.heard + 1 := by
                      obtain ⟨R5, M5, _, _, _, _, _, _, _, _, _, _, _, _, _, _, _, _, _, _, h6, _⟩ := E3.out.cells
                      unfold hOf
                      rw [h6]
                      rfl
                    have e2 := HHO.out
                    have := HSK.out
                    rw [e1, e2]
                    omega
    · have y1 : (f.yours != s1.mine) = true := by rw [bne_iff_ne]; exact hy2
      have y2 : (f.yours == s1.mine) = false := by rw [beq_eq_false_iff_ne]; exact hy2
      have HY2 := Lib.hid hy2
      clear hy2
      go_region_held3 (fun w' => w'.cell? ⟨B, 3, none⟩ = some (.int .i64 f.yours) ∧ w'.cell? ⟨S, 2, none⟩ = some (.int .i64 s1.mine)) (go_keep) (fail)
      go_wp2
      go_ret2
      refine TakeEnd.mk (v := .slice none 0 0) (t := (([], true), s1.owe)) (G := TG F B) ?_ (World.ownsRow_nil _ _ _ _) (by simp [Value.ownBlock]) ?_ ?_ ?_
      · rw [← HU.out]
        unfold Se.take
        rw [if_neg (by rw [HBAD.out]; simp), if_pos (fun e => HY2.out (e.trans HMI.out.symm))]
      · intro k hk
        have := HBE.out
        rcases hk with hk | hk
        · exact .inl hk.1
        · exact .inr (by omega)
      · refine ⟨R1, M1, gFS, ?_, ?_, ?_⟩
        · show (W1.setCell _ _).heap[S]? = _
          rw [heap_setCell_same _ _ _ _ _ _ GB.out]
          rfl
        · refine GR.out.keep (fun j hj _ => ⟨?_, hj.1⟩)
          show (W1.setCell _ _).heap[j]? = _
          exact heap_setCell_other _ _ _ _ hj.2.1
        · refine GM.out.keep (fun j hj _ => ⟨?_, by rw [hj]; exact gFM⟩)
          show (W1.setCell _ _).heap[j]? = _
          rw [hj]
          exact heap_setCell_other _ _ _ _ k2
      · have hFS' : F S ∨ w.heap.size ≤ S := by
          have := HBE.out
          rcases gFS with hk | hk
          · exact .inl hk.1
          · exact .inr (by omega)
        exact KeptF.setCell HK1.out.drew hFS' _

end Go.Proofs.YtpbmclaglkcmoaaDoor
