import Derived.Test.YtpbmclaglkcmoaaDoorWireFirst
namespace Go.Proofs.YtpbmclaglkcmoaaDoor
open Go.RowKit
set_option linter.unusedVariables false
set_option linter.unusedSimpArgs false

/-! msg: Valid. -/
structure LockR where
  f : Int
  t : Int
  m : Int

structure MsgR where
  kind : Int
  id : Int
  node : Int
  gen : Int
  stamp : Int
  epoch : Int
  err : Int
  locks : List LockR

def Locks (w : World) (A : Option Addr) (l : List LockR) : Prop :=
  ∀ j (h : j < l.length), ∃ b o, A = some ⟨b, o, none⟩ ∧ w.cell? ⟨b, o + j * 3, none⟩ = some (.int .i64 l[j].f) ∧ w.cell? ⟨b, o + j * 3 + 1, none⟩ = some (.int .i64 l[j].t) ∧ w.cell? ⟨b, o + j * 3 + 2, none⟩ = some (.int .i64 l[j].m)

theorem Locks.below {w w' : World} {A : Option Addr} {l : List LockR} (h : Locks w A l) (hb : Below w.heap.size w w') : Locks w' A l := by
  intro j hj
  obtain ⟨b, o, hA, h0, h1, h2⟩ := h j hj
  exact ⟨b, o, hA, (hb.cell (World.block_lt_of_cell? _ _ h0)).trans h0, (hb.cell (World.block_lt_of_cell? _ _ h1)).trans h1, (hb.cell (World.block_lt_of_cell? _ _ h2)).trans h2⟩

def lockOk (x : LockR) : Bool := decide (0 ≤ x.f) && decide (x.f < x.t) && decide (x.t ≤ 4096) && (decide (0 ≤ x.m) && decide (x.m ≤ 2))
def numsM (m : MsgR) : List Int := [m.id, m.node, m.gen, m.stamp, m.err]
def numOk (n : Int) : Bool := decide (0 ≤ n) && decide (n ≤ 2147483647)
def msgOk (m : MsgR) : Bool := decide (1 ≤ m.kind) && decide (m.kind ≤ 15) && decide (m.locks.length ≤ 200) && (numsM m).all numOk && m.locks.all lockOk

def msgV (m : MsgR) (A : Option Addr) (c : Nat) : Value := .agg #[.int .i64 m.kind, .int .i64 m.id, .int .i64 m.node, .int .i64 m.gen, .int .i64 m.stamp, .int .u64 m.epoch, .int .i64 m.err, .slice A m.locks.length c]
def msgC (m : MsgR) (A : Option Addr) (c : Nat) : Array Value := #[.int .i64 m.kind, .int .i64 m.id, .int .i64 m.node, .int .i64 m.gen, .int .i64 m.stamp, .int .u64 m.epoch, .int .i64 m.err, .slice A m.locks.length c]

theorem spanValid_calls (f t : Int) (w : World) : Calls Tryd.prog 67 #[.agg #[.int .i64 f, .int .i64 t]] w fun r w' => r = .returned (.bool (decide (0 ≤ f) && decide (f < t))) ∧ Below w.heap.size w w' := by
  by_cases h : 0 ≤ f
  · by_cases h2 : f < t
    · go_enter Tryd.func67, Tryd.ntmps67
      go_wp2
      go_ret
      exact ⟨by simp [h, h2], al (Below.refl _ _) _⟩
    · go_enter Tryd.func67, Tryd.ntmps67
      go_wp2
      go_ret
      exact ⟨by simp [h, h2], al (Below.refl _ _) _⟩
  · go_enter Tryd.func67, Tryd.ntmps67
    go_wp2
    go_ret
    exact ⟨by rw [decide_eq_false (Int.not_le.2 h)]; rfl, al (Below.refl _ _) _⟩

theorem modeValid_calls (m : Int) (w : World) : Calls Tryd.prog 68 #[.int .i64 m] w fun r w' => r = .returned (.bool (decide (0 ≤ m) && decide (m ≤ 2))) ∧ w = w' := by
  by_cases h : 0 ≤ m
  · by_cases h2 : m ≤ 2
    · go_enter Tryd.func68, Tryd.ntmps68
      go_wp2
      go_ret
      exact ⟨by simp [h, h2], rfl⟩
    · go_enter Tryd.func68, Tryd.ntmps68
      go_wp2
      go_ret
      exact ⟨by simp [h, h2], rfl⟩
  · go_enter Tryd.func68, Tryd.ntmps68
    go_wp2
    go_ret
    exact ⟨by rw [decide_eq_false (Int.not_le.2 h)]; rfl, rfl⟩

theorem ints_cell {w : World} {b : Nat} {l : List Int} {t : TypeId} (h : w.heap[b]? = some (.cells (l.map (Value.int .i64)).toArray t (0, 0))) (k : Nat) (hk : k < l.length) : w.cell? ⟨b, k, none⟩ = some (.int .i64 l[k]) := by
  rw [Lib.cell_of_heap h]
  simp [hk]

theorem all_snocN {l : List Int} {p : Int → Bool} (k : Nat) (hk : k < l.length) : (l.take (k + 1)).all p = ((l.take k).all p && p l[k]) := by
  rw [List.take_succ_eq_append_getElem hk, List.all_append]
  simp
theorem all_falseN {l : List Int} {p : Int → Bool} (k : Nat) (hk : k < l.length) (h : p l[k] = false) : l.all p = false := by
  rw [Bool.eq_false_iff]
  intro ha
  have := List.all_eq_true.1 ha l[k] (List.getElem_mem hk)
  rw [h] at this
  cases this
theorem all_snocL {l : List LockR} {p : LockR → Bool} (k : Nat) (hk : k < l.length) : (l.take (k + 1)).all p = ((l.take k).all p && p l[k]) := by
  rw [List.take_succ_eq_append_getElem hk, List.all_append]
  simp
theorem all_falseL {l : List LockR} {p : LockR → Bool} (k : Nat) (hk : k < l.length) (h : p l[k] = false) : l.all p = false := by
  rw [Bool.eq_false_iff]
  intro ha
  have := List.all_eq_true.1 ha l[k] (List.getElem_mem hk)
  rw [h] at this
  cases this

set_option maxHeartbeats 4000000 in
set_option maxRecDepth 100000 in
theorem msgValid_calls (m : MsgR) (A : Option Addr) (c : Nat) (w : World) (hI : Locks w A m.locks) (hm : m.locks.length ≤ 9223372036854775806) :
    Calls Tryd.prog 34 #[msgV m A c] w fun r w' => r = .returned (.bool (msgOk m)) ∧ Below w.heap.size w w' := by
  obtain ⟨kind, id, node, gen, stamp, epoch, err, locks⟩ := m
  simp only [msgV] at hI hm ⊢
  have HI := Lib.hid hI
  clear hI
  by_cases h1 : kind < 1
  · have HV : Hid (msgOk ⟨kind, id, node, gen, stamp, epoch, err, locks⟩ = false) := by
      show _ = _
      have : decide (1 ≤ kind) = false := by simp; omega
      simp [msgOk, this]
    go_enter Tryd.func34, Tryd.ntmps34
    go_wp2
    go_ret
    exact ⟨by rw [HV.out]; rfl, al (Below.refl _ _) _⟩
  by_cases h2 : 15 < kind
  · have HV : Hid (msgOk ⟨kind, id, node, gen, stamp, epoch, err, locks⟩ = false) := by
      show _ = _
      have : decide (kind ≤ 15) = false := by simp; omega
      simp [msgOk, this]
    go_enter Tryd.func34, Tryd.ntmps34
    go_wp2
    go_ret
    exact ⟨by rw [HV.out]; rfl, al (Below.refl _ _) _⟩
  by_cases h3 : 200 < (locks.length : Int)
  · have HV : Hid (msgOk ⟨kind, id, node, gen, stamp, epoch, err, locks⟩ = false) := by
      show _ = _
      have : decide (locks.length ≤ 200) = false := by simp; omega
      simp [msgOk, this]
    go_enter Tryd.func34, Tryd.ntmps34
    go_wp2
    go_ret
    exact ⟨by rw [HV.out]; rfl, al (Below.refl _ _) _⟩
  have HV : Hid (msgOk ⟨kind, id, node, gen, stamp, epoch, err, locks⟩ = ([id, node, gen, stamp, err].all numOk && locks.all lockOk)) := by
    show _ = _
    have e1 : decide (1 ≤ kind) = true := by simp; omega
    have e2 : decide (kind ≤ 15) = true := by simp; omega
    have e3 : decide (locks.length ≤ 200) = true := by simp; omega
    unfold msgOk
    simp only [e1, e2, e3, Bool.true_and]
    rfl
  go_enter Tryd.func34, Tryd.ntmps34
  go_wp2_with fail
  have HB0 : Hid (Below w.heap.size w ((w.alloc (.cells #[.int .i64 kind, .int .i64 id, .int .i64 node, .int .i64 gen, .int .i64 stamp, .int .u64 epoch, .int .i64 err, .slice A locks.length c] 53)).alloc (.cells #[.int .i64 id, .int .i64 node, .int .i64 gen, .int .i64 stamp, .int .i64 err] 3))) := al (al (Below.refl _ w) _) _
  have hs1 : (w.alloc (.cells #[.int .i64 kind, .int .i64 id, .int .i64 node, .int .i64 gen, .int .i64 stamp, .int .u64 epoch, .int .i64 err, .slice A locks.length c] 53)).heap.size = w.heap.size + 1 := by simp
  have HN0 : Hid (((w.alloc (.cells #[.int .i64 kind, .int .i64 id, .int .i64 node, .int .i64 gen, .int .i64 stamp, .int .u64 epoch, .int .i64 err, .slice A locks.length c] 53)).alloc (.cells #[.int .i64 id, .int .i64 node, .int .i64 gen, .int .i64 stamp, .int .i64 err] 3)).heap[w.heap.size + 1]? = some (.cells ([id, node, gen, stamp, err].map (Value.int .i64)).toArray 3 (0, 0))) := by
    have := heap_alloc_new (w.alloc (.cells #[.int .i64 kind, .int .i64 id, .int .i64 node, .int .i64 gen, .int .i64 stamp, .int .u64 epoch, .int .i64 err, .slice A locks.length c] 53)) (.cells #[.int .i64 id, .int .i64 node, .int .i64 gen, .int .i64 stamp, .int .i64 err] 3)
    rw [hs1] at this
    exact this
  have HM0 : Hid (((w.alloc (.cells #[.int .i64 kind, .int .i64 id, .int .i64 node, .int .i64 gen, .int .i64 stamp, .int .u64 epoch, .int .i64 err, .slice A locks.length c] 53)).alloc (.cells #[.int .i64 id, .int .i64 node, .int .i64 gen, .int .i64 stamp, .int .i64 err] 3)).heap[w.heap.size]? = some (.cells #[.int .i64 kind, .int .i64 id, .int .i64 node, .int .i64 gen, .int .i64 stamp, .int .u64 epoch, .int .i64 err, .slice A locks.length c] 53 (0, 0))) := by
    rw [Lib.alloc_old _ _ _ (by rw [hs1]; omega)]
    exact heap_alloc_new w _
  clear hs1
  have HNL : Hid ([id, node, gen, stamp, err].length = 5) := rfl
  generalize hnums : [id, node, gen, stamp, err] = nums at HV HN0 HNL
  have HNUMS := Lib.hid hnums
  clear hnums
  have hnl : nums.length = 5 := HNL.out
  clear hnl
  go_loopw [33] (fun s33 wr => ∃ k : Nat, k ≤ 5 ∧ s33 = .int .i64 k ∧ Hid ((nums.take k).all numOk = true) ∧ Hid (wr.heap[w.heap.size + 1]? = some (.cells (nums.map (Value.int .i64)).toArray 3 (0, 0))) ∧ Hid (wr.heap[w.heap.size]? = some (.cells #[.int .i64 kind, .int .i64 id, .int .i64 node, .int .i64 gen, .int .i64 stamp, .int .u64 epoch, .int .i64 err, .slice A locks.length c] 53 (0, 0))) ∧ Hid (Below w.heap.size w wr)) (fun s33 _ => 5 - (intOf s33).toNat)
  case atStart => exact ⟨0, by omega, rfl, rfl, HN0.out, HM0.out, HB0.out⟩
  case round =>
    clear HB0 HN0 HM0
    obtain ⟨k, hk, rfl, HA, HN, HM, HB⟩ := hrel
    by_cases hlt : k < 5
    · have hkl : k < nums.length := by rw [HNL.out]; exact hlt
      have c0 := ints_cell HN.out k hkl
      have hsn := all_snocN (p := numOk) k hkl
      have hfa := all_falseN (p := numOk) k hkl
      generalize nums[k] = x at c0 hsn hfa
      have HFA := Lib.hid hfa
      have HSN := Lib.hid hsn
      clear hsn hfa hkl
      have hki : (k : Int) < 5 := by omega
      have hk0 : (0 : Int) ≤ (k : Int) := Int.natCast_nonneg _
      by_cases hx : numOk x = true
      · have hx2 : 0 ≤ x ∧ x ≤ 2147483647 := by simpa [numOk] using hx
        obtain ⟨hx3, hx4⟩ := hx2
        have HA2 : Hid ((nums.take (k + 1)).all numOk = true) := by show _ = _; rw [HSN.out, HA.out, hx]; rfl
        clear hx
        go_wp2
        go_roundw
        case rel => exact ⟨k + 1, by omega, by go_num, HA2.out, HN.out, HM.out, HB.out⟩
        case measure => simp [intOf]; omega
      · have hxf : numOk x = false := by simpa using hx
        have HVF : Hid (msgOk ⟨kind, id, node, gen, stamp, epoch, err, locks⟩ = false) := by show _ = _; rw [HV.out, HFA.out hxf]; rfl
        have hx2 : x < 0 ∨ 2147483647 < x := by
          unfold numOk at hxf
          simp at hxf
          omega
        clear hx hxf
        rcases hx2 with hx2 | hx2
        · go_wp2
          go_ret
          exact ⟨by rw [HVF.out]; rfl, HB.out⟩
        · have hx3 : ¬ x < 0 := by omega
          go_wp2
          go_ret
          exact ⟨by rw [HVF.out]; rfl, HB.out⟩
    · have hk5 : k = 5 := by omega
      subst hk5
      have htk : nums.take 5 = nums := List.take_of_length_le (by rw [HNL.out]; omega)
      have HV2 : Hid (msgOk ⟨kind, id, node, gen, stamp, epoch, err, locks⟩ = locks.all lockOk) := by
        show _ = _
        have := HA.out
        rw [htk] at this
        rw [HV.out, this]
        rfl
      have e7 : wr.cell? ⟨w.heap.size, 7, none⟩ = some (.slice A locks.length c) := by rw [Lib.cell_of_heap HM.out]; rfl
      clear htk
      go_wp2_with fail
      clear e7
      go_loopw [47] (fun s47 wr => ∃ k : Nat, k ≤ locks.length ∧ s47 = .int .i64 k ∧ Hid ((locks.take k).all lockOk = true) ∧ Hid (Below w.heap.size w wr)) (fun s47 _ => locks.length - (intOf s47).toNat)
      case atStart => exact ⟨0, Nat.zero_le _, rfl, rfl, HB.out⟩
      case round =>
        clear HB HN HM HA
        obtain ⟨k, hk, rfl, HA, HB⟩ := hrel
        by_cases hlt : k < locks.length
        · obtain ⟨b, o, rfl, c0, c1, c2⟩ := (HI.out.below HB.out) k hlt
          have hsn := all_snocL (p := lockOk) k hlt
          have hfa := all_falseL (p := lockOk) k hlt
          generalize locks[k] = x at c0 c1 c2 hsn hfa
          obtain ⟨f, t, m⟩ := x
          simp only at c0 c1 c2
          have HFA := Lib.hid hfa
          have HSN := Lib.hid hsn
          clear hsn hfa
          have HSP := Lib.hid (fun W => spanValid_calls f t W)
          have HMO := Lib.hid (fun W => modeValid_calls m W)
          have hlk : lockOk ⟨f, t, m⟩ = ((decide (0 ≤ f) && decide (f < t)) && decide (t ≤ 4096) && (decide (0 ≤ m) && decide (m ≤ 2))) := rfl
          generalize (decide (0 ≤ f) && decide (f < t)) = sp at HSP hlk
          generalize (decide (0 ≤ m) && decide (m ≤ 2)) = mo at HMO hlk
          cases sp with
          | false =>
            have HVF : Hid (msgOk ⟨kind, id, node, gen, stamp, epoch, err, locks⟩ = false) := by show _ = _; rw [HV2.out]; exact HFA.out (by rw [hlk]; rfl)
            clear hlk
            go_wp2_with fail
            refine (HSP.out _).mono ?_
            rintro r w5 ⟨rfl, b5⟩
            go_wp2
            go_ret
            exact ⟨by rw [HVF.out]; rfl, HB.out.trans ((al (Below.refl wr.heap.size wr) _ |>.trans (b5.mono (by simp))).mono HB.out.size)⟩
          | true =>
            have hob : Hid ((wr.alloc (.cells #[.int .i64 f, .int .i64 t, .int .i64 m] 101)).heap[wr.heap.size]? = some (.cells #[.int .i64 f, .int .i64 t, .int .i64 m] 101 (0, 0))) := heap_alloc_new wr _
            by_cases ht : 4096 < t
            · have HVF : Hid (msgOk ⟨kind, id, node, gen, stamp, epoch, err, locks⟩ = false) := by
                show _ = _
                rw [HV2.out]
                refine HFA.out ?_
                rw [hlk]
                have : decide (t ≤ 4096) = false := by simp; omega
                rw [this]
                rfl
              clear hlk
              go_wp2_with fail
              refine (HSP.out _).mono ?_
              rintro r w5 ⟨rfl, b5⟩
              have ho5 := (b5.block wr.heap.size (by simp)).trans hob.out
              have d1 : w5.cell? ⟨wr.heap.size, 1, none⟩ = some (.int .i64 t) := by rw [Lib.cell_of_heap ho5]; rfl
              have B5 := Lib.hid (HB.out.trans ((al (Below.refl wr.heap.size wr) _ |>.trans (b5.mono (by simp))).mono HB.out.size))
              clear ho5 b5
              go_wp2
              go_ret
              exact ⟨by rw [HVF.out]; rfl, B5.out⟩
            · cases mo with
              | false =>
                have HVF : Hid (msgOk ⟨kind, id, node, gen, stamp, epoch, err, locks⟩ = false) := by
                  show _ = _
                  rw [HV2.out]
                  refine HFA.out ?_
                  rw [hlk, Bool.and_false]
                clear hlk
                go_wp2_with fail
                refine (HSP.out _).mono ?_
                rintro r w5 ⟨rfl, b5⟩
                have ho5 := (b5.block wr.heap.size (by simp)).trans hob.out
                have d1 : w5.cell? ⟨wr.heap.size, 1, none⟩ = some (.int .i64 t) := by rw [Lib.cell_of_heap ho5]; rfl
                have d2 : w5.cell? ⟨wr.heap.size, 2, none⟩ = some (.int .i64 m) := by rw [Lib.cell_of_heap ho5]; rfl
                have B5 := Lib.hid (HB.out.trans ((al (Below.refl wr.heap.size wr) _ |>.trans (b5.mono (by simp))).mono HB.out.size))
                clear ho5 b5
                go_wp2_with fail
                refine (HMO.out _).mono ?_
                rintro r w6 ⟨rfl, rfl⟩
                go_wp2
                go_ret
                exact ⟨by rw [HVF.out]; rfl, B5.out⟩
              | true =>
                have HA2 : Hid ((locks.take (k + 1)).all lockOk = true) := by
                  show _ = _
                  have : decide (t ≤ 4096) = true := by simp; omega
                  rw [HSN.out, HA.out, hlk, this]
                  rfl
                clear hlk
                go_wp2_with fail
                refine (HSP.out _).mono ?_
                rintro r w5 ⟨rfl, b5⟩
                have ho5 := (b5.block wr.heap.size (by simp)).trans hob.out
                have d1 : w5.cell? ⟨wr.heap.size, 1, none⟩ = some (.int .i64 t) := by rw [Lib.cell_of_heap ho5]; rfl
                have d2 : w5.cell? ⟨wr.heap.size, 2, none⟩ = some (.int .i64 m) := by rw [Lib.cell_of_heap ho5]; rfl
                have B5 := Lib.hid (HB.out.trans ((al (Below.refl wr.heap.size wr) _ |>.trans (b5.mono (by simp))).mono HB.out.size))
                clear ho5 b5
                go_wp2_with fail
                refine (HMO.out _).mono ?_
                rintro r w6 ⟨rfl, rfl⟩
                go_wp2
                go_roundw
                case rel => exact ⟨_, _, _, _, _, _, _, _, _, _, _, _, _, _, _, _, _, _, _, _, _, _, _, ⟨k + 1, by omega, by go_num, HA2.out, B5.out⟩, rfl⟩
                case measure => simp [intOf]; omega
        · have hll : locks.take k = locks := List.take_of_length_le (by omega)
          have HVT : Hid (msgOk ⟨kind, id, node, gen, stamp, epoch, err, locks⟩ = true) := by
            show _ = _
            have := HA.out
            rw [hll] at this
            rw [HV2.out, this]
          clear hll
          go_wp2
          go_ret
          exact ⟨by rw [HVT.out]; rfl, HB.out⟩

end Go.Proofs.YtpbmclaglkcmoaaDoor
