import Derived.Test.YtpbmclaglkcmoaaDoorMsg
import Derived.Deep.RegionHeld3
namespace Go.Proofs.YtpbmclaglkcmoaaDoor
open Go.RowKit
set_option linter.unusedVariables false
set_option linter.unusedSimpArgs false

theorem Wr.within1 {F : Nat → Prop} {b : Nat} {bs : List UInt8} {err : Int} {w : World} (h : Wr F b bs err w) : Wr (fun k => F k ∧ k < w.heap.size) b bs err w := by
  obtain ⟨h1, v, hb, ho, hF⟩ := h
  exact ⟨⟨h1, lt_of_heap hb⟩, v, hb, ho, fun k ek => ⟨hF k ek, (ho.lt k ek).2⟩⟩
theorem Wr.below1 {F : Nat → Prop} {b : Nat} {bs : List UInt8} {err : Int} {w w' : World} (h : Wr F b bs err w) (hB : Below w.heap.size w w') : Wr F b bs err w' := by
  obtain ⟨h1, v, hb, ho, hF⟩ := h
  exact ⟨h1, v, (hB.block b (lt_of_heap hb)).trans hb, ownsRow_keep ho (fun j ej => hB.block j (ho.lt j ej).2), hF⟩

/-- A writer over blocks from B on, and a block o that is none of its own. -/
def One (B o b : Nat) (bs : List UInt8) (w : World) : Prop :=
  ∃ F : Nat → Prop, (∀ k, F k → B ≤ k ∧ k < w.heap.size ∧ k ≠ o) ∧ Wr F b bs 0 w

theorem One.alloc {B o b : Nat} {bs : List UInt8} {w : World} (h : One B o b bs w) (ob : Obj) : One B w.heap.size b bs (w.alloc ob) := by
  obtain ⟨F, h1, h2⟩ := h
  refine ⟨F, fun k hk => ⟨(h1 k hk).1, ?_, ?_⟩, h2.below1 (al (Below.refl _ w) _)⟩
  · have := (h1 k hk).2.1; simp; omega
  · have := (h1 k hk).2.1; omega

theorem One.below {B o b : Nat} {bs : List UInt8} {w w' : World} (h : One B o b bs w) (hb : Below w.heap.size w w') : One B o b bs w' := by
  obtain ⟨F, h1, h2⟩ := h
  exact ⟨F, fun k hk => ⟨(h1 k hk).1, by have := (h1 k hk).2.1; have := hb.size; omega, (h1 k hk).2.2⟩, h2.below1 hb⟩

theorem One.wr {B o b : Nat} {bs : List UInt8} {w : World} (h : One B o b bs w) : ∃ F, Wr F b bs 0 w := by
  obtain ⟨F, h1, h2⟩ := h
  exact ⟨F, h2⟩

theorem one_num {B o b : Nat} {bs : List UInt8} {v n : Int} {w : World} (h : One B o b bs w) (ho : o < w.heap.size) (hB : B ≤ w.heap.size) (hw : wrongN v n = 0) (hv : 0 ≤ v) (hv2 : v < 18446744073709551616) (hl : bs.length + 8 ≤ 140737488355328) :
    Calls Tryd.prog 16 #[.pointer (some ⟨b, 0, none⟩), .int .u64 v, .int .i64 n] w fun r w' => r = .returned (.pointer (some ⟨b, 0, none⟩)) ∧ One B o b (bs ++ leB n.toNat v) w' ∧ Below B w w' ∧ w'.heap[o]? = w.heap[o]? := by
  obtain ⟨F, h1, h2⟩ := h
  refine (num_ok F b bs v n w h2 hv hv2 hw hl).mono ?_
  rintro r w' ⟨e1, e2, e3⟩
  refine ⟨e1, ⟨_, ?_, e2.within1⟩, e3.below hB (fun k hk hf => by have := (h1 k hf).1; omega), e3.block o ho (fun hf => (h1 o hf).2.2 rfl)⟩
  rintro k ⟨hf | hf, hl⟩
  · exact ⟨(h1 k hf).1, hl, (h1 k hf).2.2⟩
  · exact ⟨by omega, hl, by omega⟩

def encL (x : LockR) : List UInt8 := leB 4 x.f ++ leB 4 x.t ++ leB 1 x.m
def encN (l : List Int) : List UInt8 := l.flatMap (leB 4)
def encM (m : MsgR) : List UInt8 := leB 1 m.kind ++ encN (numsM m) ++ leB 8 m.epoch ++ leB 2 m.locks.length ++ m.locks.flatMap encL

theorem encN_snoc (l : List Int) (k : Nat) (h : k < l.length) : encN (l.take (k + 1)) = encN (l.take k) ++ leB 4 l[k] := by
  unfold encN
  rw [List.take_succ_eq_append_getElem h, List.flatMap_append]
  simp
theorem encN_len (l : List Int) : (encN l).length = 4 * l.length := by
  induction l with
  | nil => rfl
  | cons x l ih =>
    unfold encN at ih ⊢
    rw [List.flatMap_cons, List.length_append, ih, leB_length, List.length_cons]
    omega
theorem encLs_snoc (l : List LockR) (k : Nat) (h : k < l.length) : (l.take (k + 1)).flatMap encL = (l.take k).flatMap encL ++ encL l[k] := by
  rw [List.take_succ_eq_append_getElem h, List.flatMap_append]
  simp
theorem encL_len (x : LockR) : (encL x).length = 9 := by simp [encL, leB_length]
theorem encLs_len (l : List LockR) : (l.flatMap encL).length = 9 * l.length := by
  induction l with
  | nil => rfl
  | cons x l ih => rw [List.flatMap_cons, List.length_append, ih, encL_len, List.length_cons]; omega

theorem nums_ok {l : List Int} (h : l.all numOk = true) (k : Nat) (hk : k < l.length) : 0 ≤ l[k] ∧ l[k] ≤ 2147483647 := by
  have := List.all_eq_true.1 h l[k] (List.getElem_mem hk)
  simpa [numOk] using this
theorem locks_ok {l : List LockR} (h : l.all lockOk = true) (k : Nat) (hk : k < l.length) : 0 ≤ l[k].f ∧ l[k].f < l[k].t ∧ l[k].t ≤ 4096 ∧ 0 ≤ l[k].m ∧ l[k].m ≤ 2 := by
  have := List.all_eq_true.1 h l[k] (List.getElem_mem hk)
  simp [lockOk] at this
  omega

/-- The writer's block is the first new one; block o holds a lock. -/
def Stp (B o : Nat) (w1 : World) (f t m : Int) (bs : List UInt8) (W : World) : Prop :=
  One B o B bs W ∧ Below B w1 W ∧ B ≤ o ∧ W.heap[o]? = some (.cells #[.int .i64 f, .int .i64 t, .int .i64 m] 101 (0, 0))

theorem Stp.cells {B o : Nat} {w1 : World} {f t m : Int} {bs : List UInt8} {W : World} (h : Stp B o w1 f t m bs W) : W.cell? ⟨o, 0, none⟩ = some (.int .i64 f) ∧ W.cell? ⟨o, 1, none⟩ = some (.int .i64 t) ∧ W.cell? ⟨o, 2, none⟩ = some (.int .i64 m) := by
  obtain ⟨_, _, _, h4⟩ := h
  refine ⟨?_, ?_, ?_⟩ <;> (rw [Lib.cell_of_heap h4]; rfl)

theorem Stp.drew {B o : Nat} {w1 : World} {f t m : Int} {bs : List UInt8} {W : World} (h : Stp B o w1 f t m bs W) : Stp B o w1 f t m bs W.drew := by
  obtain ⟨h1, h2, h3, h4⟩ := h
  exact ⟨h1, h2.drew, h3, h4⟩

theorem stp_num {B o : Nat} {w1 : World} {f t m : Int} {bs : List UInt8} {v u n : Int} {W : World} (h : Stp B o w1 f t m bs W) (hu : u = v) (hw : wrongN v n = 0) (hv : 0 ≤ v) (hv2 : v < 18446744073709551616) (hl : bs.length + 8 ≤ 140737488355328) :
    Calls Tryd.prog 16 #[.pointer (some ⟨B, 0, none⟩), .int .u64 u, .int .i64 n] W fun r w' => r = .returned (.pointer (some ⟨B, 0, none⟩)) ∧ Hid (Stp B o w1 f t m (bs ++ leB n.toNat v) w') ∧ w'.cell? ⟨o, 0, none⟩ = some (.int .i64 f) ∧ w'.cell? ⟨o, 1, none⟩ = some (.int .i64 t) ∧ w'.cell? ⟨o, 2, none⟩ = some (.int .i64 m) := by
  subst hu
  obtain ⟨h1, h2, h3, h4⟩ := h
  have hB : B ≤ W.heap.size := by have := lt_of_heap h4; omega
  refine (one_num h1 (lt_of_heap h4) hB hw hv hv2 hl).mono ?_
  rintro r w' ⟨rfl, g, b, e⟩
  have hs : Stp B o w1 f t m (bs ++ leB n.toNat u) w' := ⟨g, h2.trans b, h3, e.trans h4⟩
  exact ⟨rfl, hs, hs.cells⟩

set_option maxHeartbeats 8000000 in
set_option maxRecDepth 100000 in
theorem msgPut_calls (m : MsgR) (A : Option Addr) (c : Nat) (w : World) (hI : Locks w A m.locks) (hm : m.locks.length ≤ 9223372036854775806) (he : 0 ≤ m.epoch ∧ m.epoch < 18446744073709551616) :
    Calls Tryd.prog 33 #[msgV m A c] w fun r w' => r = .returned (.tuple #[.string (if msgOk m then bstr (encM m) else { data := #[] }), .int .i64 (if msgOk m then 0 else 1)]) ∧ Below w.heap.size w w' := by
  have HV := Lib.hid (fun W (hW : Locks W A m.locks) => msgValid_calls m A c W hW hm)
  have HI := Lib.hid hI
  clear hI
  cases hok : msgOk m with
  | false =>
    rw [hok] at HV
    clear hok
    obtain ⟨kind, id, node, gen, stamp, epoch, err, locks⟩ := m
    simp only [msgV] at HV HI hm he ⊢
    go_enter Tryd.func33, Tryd.ntmps33
    go_wp2_with fail
    refine (HV.out _ (HI.out.below (al (Below.refl _ w) _))).mono ?_
    rintro r w1 ⟨rfl, b1⟩
    go_wp2
    go_ret2
    exact ⟨rfl, (al (Below.refl _ w) _).trans (b1.mono (by simp))⟩
  | true =>
    rw [hok] at HV
    have hok2 : 1 ≤ m.kind ∧ m.kind ≤ 15 ∧ m.locks.length ≤ 200 ∧ (numsM m).all numOk = true ∧ m.locks.all lockOk = true := by
      unfold msgOk at hok
      simp only [Bool.and_eq_true, decide_eq_true_eq] at hok
      exact ⟨hok.1.1.1.1, hok.1.1.1.2, hok.1.1.2, hok.1.2, hok.2⟩
    obtain ⟨hk1, hk15, hl200, hnok, hlok⟩ := hok2
    have HE : Hid (encM m = leB 1 m.kind ++ encN (numsM m) ++ leB 8 m.epoch ++ leB 2 m.locks.length ++ m.locks.flatMap encL) := rfl
    generalize encM m = EM at HE
    clear hok
    obtain ⟨kind, id, node, gen, stamp, epoch, err, locks⟩ := m
    obtain ⟨he0, he1⟩ := he
    simp only [msgV, numsM] at HV HI hm hk1 hk15 hl200 hnok hlok HE he0 he1 ⊢
    have hwk : IntKind.u64.wrap kind = kind := wraps_u64 kind (by omega) (by omega)
    have HWK := Lib.hid hwk
    have HNL : Hid ([id, node, gen, stamp, err].length = 5) := rfl
    have HNOK := Lib.hid hnok
    have HLOK := Lib.hid hlok
    clear hnok hlok hwk
    go_enter Tryd.func33, Tryd.ntmps33
    go_wp2_with fail
    refine (HV.out _ (HI.out.below (al (Below.refl _ w) _))).mono ?_
    rintro r w1 ⟨rfl, b1⟩
    have hob1 : w1.heap[w.heap.size]? = some (.cells #[.int .i64 kind, .int .i64 id, .int .i64 node, .int .i64 gen, .int .i64 stamp, .int .u64 epoch, .int .i64 err, .slice A locks.length c] 53 (0, 0)) := (b1.block w.heap.size (by simp)).trans (heap_alloc_new w _)
    have c0 : w1.cell? ⟨w.heap.size, 0, none⟩ = some (.int .i64 kind) := by rw [Lib.cell_of_heap hob1]; rfl
    have hlt1 : w.heap.size < w1.heap.size := lt_of_heap hob1
    have HM1 := Lib.hid hob1
    have B1 := Lib.hid ((al (Below.refl _ w) _).trans (b1.mono (by simp)) : Below w.heap.size w w1)
    clear hob1 b1
    have hone0 : One w1.heap.size w.heap.size w1.heap.size [] (w1.alloc (.cells #[.slice none 0 0, .int .i64 0] 27)) :=
      ⟨_, fun k hk => ⟨hk.1, hk.2, by have := hk.1; omega⟩, (Wr.fresh w1).within1⟩
    have HONE0 := Lib.hid hone0
    clear hone0
    go_wp2_with fail
    refine (one_num HONE0.out (by simp; omega) (by simp) (wrong1 kind (by omega) (by omega)) (by omega) (by omega) (by decide)).mono ?_
    rintro r w2 ⟨rfl, h2, b2, _⟩
    have hob2 : w2.heap[w.heap.size]? = some (.cells #[.int .i64 kind, .int .i64 id, .int .i64 node, .int .i64 gen, .int .i64 stamp, .int .u64 epoch, .int .i64 err, .slice A locks.length c] 53 (0, 0)) := (b2.block w.heap.size hlt1).trans ((Lib.alloc_old w1 _ w.heap.size hlt1).trans HM1.out)
    have d1 : w2.cell? ⟨w.heap.size, 1, none⟩ = some (.int .i64 id) := by rw [Lib.cell_of_heap hob2]; rfl
    have d2 : w2.cell? ⟨w.heap.size, 2, none⟩ = some (.int .i64 node) := by rw [Lib.cell_of_heap hob2]; rfl
    have d3 : w2.cell? ⟨w.heap.size, 3, none⟩ = some (.int .i64 gen) := by rw [Lib.cell_of_heap hob2]; rfl
    have d4 : w2.cell? ⟨w.heap.size, 4, none⟩ = some (.int .i64 stamp) := by rw [Lib.cell_of_heap hob2]; rfl
    have d6 : w2.cell? ⟨w.heap.size, 6, none⟩ = some (.int .i64 err) := by rw [Lib.cell_of_heap hob2]; rfl
    have hlt2 : w1.heap.size ≤ w2.heap.size := by have := b2.size; simp at this; omega
    have HB2 : Hid (Below w1.heap.size w1 w2) := (al (Below.refl _ w1) _).trans b2
    have HA2 := Lib.hid (h2.alloc (.cells #[.int .i64 id, .int .i64 node, .int .i64 gen, .int .i64 stamp, .int .i64 err] 3))
    have HR2 : Hid ((w2.alloc (.cells #[.int .i64 id, .int .i64 node, .int .i64 gen, .int .i64 stamp, .int .i64 err] 3)).heap[w2.heap.size]? = some (.cells ([id, node, gen, stamp, err].map (Value.int .i64)).toArray 3 (0, 0))) := heap_alloc_new w2 _
    have HB3 : Hid (Below w1.heap.size w1 (w2.alloc (.cells #[.int .i64 id, .int .i64 node, .int .i64 gen, .int .i64 stamp, .int .i64 err] 3))) := HB2.out.trans ((al (Below.refl _ w2) _).mono hlt2)
    clear h2 b2 hob2 c0
    go_wp2_with fail
    clear d1 d2 d3 d4 d6
    generalize hnums : [id, node, gen, stamp, err] = nums at HNOK HE HNL HR2
    clear hnums
    go_loopw [28] (fun s28 wr => ∃ k : Nat, k ≤ 5 ∧ s28 = .int .i64 k ∧ Hid (One w1.heap.size w2.heap.size w1.heap.size (leB 1 kind ++ encN (nums.take k)) wr) ∧ Hid (wr.heap[w2.heap.size]? = some (.cells (nums.map (Value.int .i64)).toArray 3 (0, 0))) ∧ Hid (Below w1.heap.size w1 wr)) (fun s28 _ => 5 - (intOf s28).toNat)
    case atStart => exact ⟨0, by omega, rfl, (by have := HA2.out; show One _ _ _ (leB 1 kind ++ encN []) _; simpa [encN] using this), HR2.out, HB3.out⟩
    case round =>
      clear HA2 HR2 HB3 HB2 HONE0
      obtain ⟨k, hk, rfl, HO, HR, HB⟩ := hrel
      by_cases hlt : k < 5
      · have hkl : k < nums.length := by rw [HNL.out]; exact hlt
        have c0 := ints_cell HR.out k hkl
        have hx := nums_ok HNOK.out k hkl
        have hsn := encN_snoc nums k hkl
        have hel := encN_len (nums.take k)
        have htl : (nums.take k).length ≤ 5 := by rw [List.length_take]; omega
        generalize nums[k] = x at c0 hx hsn
        obtain ⟨hx0, hx1⟩ := hx
        have hwx : IntKind.u64.wrap x = x := wraps_u64 x (by omega) (by omega)
        have HWX := Lib.hid hwx
        have HSN := Lib.hid hsn
        have hbl : (leB 1 kind ++ encN (nums.take k)).length ≤ 100 := by rw [List.length_append, leB_length, hel]; omega
        clear hsn hkl hwx hel htl
        have hki : (k : Int) < 5 := by omega
        have hk0 : (0 : Int) ≤ (k : Int) := Int.natCast_nonneg _
        go_wp2_with fail
        refine (one_num HO.out (lt_of_heap HR.out) HB.out.size (wrong4 x (by omega) (by omega)) (by omega) (by omega) (by omega)).mono ?_
        rintro r w4 ⟨rfl, h4, b4, o4⟩
        have H4 : Hid (One w1.heap.size w2.heap.size w1.heap.size (leB 1 kind ++ encN (nums.take (k + 1))) w4) := by
          rw [HSN.out, ← List.append_assoc]
          exact h4
        have R4 := Lib.hid (o4.trans HR.out)
        have B4 := Lib.hid (HB.out.trans b4)
        clear h4 b4 o4 c0
        go_wp2
        go_roundw
        case rel => exact ⟨k + 1, by omega, by go_num, H4.out, R4.out, B4.out⟩
        case measure => simp [intOf]; omega
      · have hk5 : k = 5 := by omega
        subst hk5
        have htk : nums.take 5 = nums := List.take_of_length_le (by rw [HNL.out]; omega)
        have HO5 : Hid (One w1.heap.size w2.heap.size w1.heap.size (leB 1 kind ++ encN nums) wr) := by have := HO.out; rw [htk] at this; exact this
        have hob5 : wr.heap[w.heap.size]? = some (.cells #[.int .i64 kind, .int .i64 id, .int .i64 node, .int .i64 gen, .int .i64 stamp, .int .u64 epoch, .int .i64 err, .slice A locks.length c] 53 (0, 0)) := (HB.out.block w.heap.size hlt1).trans HM1.out
        have d5 : wr.cell? ⟨w.heap.size, 5, none⟩ = some (.int .u64 epoch) := by rw [Lib.cell_of_heap hob5]; rfl
        have d7 : wr.cell? ⟨w.heap.size, 7, none⟩ = some (.slice A locks.length c) := by rw [Lib.cell_of_heap hob5]; rfl
        have hbl : (leB 1 kind ++ encN nums).length = 21 := by rw [List.length_append, leB_length, encN_len, HNL.out]
        have HBL := Lib.hid hbl
        have hwl : IntKind.u64.wrap (locks.length : Int) = locks.length := wraps_u64 _ (by omega) (by omega)
        have HWL := Lib.hid hwl
        have hlen0 : ((locks.length : Nat) : Int) ≤ 200 := by omega
        clear htk hob5 hbl hwl HO
        have HO5d : Hid (One w1.heap.size w2.heap.size w1.heap.size (leB 1 kind ++ encN nums) wr.drew) := HO5.out
        have e5 : wr.drew.cell? ⟨w.heap.size, 5, none⟩ = some (.int .u64 epoch) := d5
        have e7 : wr.drew.cell? ⟨w.heap.size, 7, none⟩ = some (.slice A locks.length c) := d7
        have hlo : Hid (w2.heap.size < wr.drew.heap.size) := lt_of_heap HR.out
        have hlB : Hid (w1.heap.size ≤ wr.drew.heap.size) := HB.out.size
        have HKC : Hid (∀ W W' : World, Below w1.heap.size W W' → ∀ i, W'.cell? ⟨w.heap.size, i, none⟩ = W.cell? ⟨w.heap.size, i, none⟩) := fun W W' hb i => hb.cell (p := ⟨w.heap.size, i, none⟩) hlt1
        have HN1 : Hid (Calls Tryd.prog 16 #[.pointer (some ⟨w1.heap.size, 0, none⟩), .int .u64 epoch, .int .i64 8] wr.drew fun r w' => r = .returned (.pointer (some ⟨w1.heap.size, 0, none⟩)) ∧ Hid (One w1.heap.size w2.heap.size w1.heap.size (leB 1 kind ++ encN nums ++ leB 8 epoch) w') ∧ Hid (Below w1.heap.size w1 w') ∧ Hid (w2.heap.size < w'.heap.size) ∧ w'.cell? ⟨w.heap.size, 5, none⟩ = some (.int .u64 epoch) ∧ w'.cell? ⟨w.heap.size, 7, none⟩ = some (.slice A locks.length c)) := by
          refine (one_num HO5d.out hlo.out hlB.out (wrong8 epoch) he0 he1 (by rw [HBL.out]; decide)).mono ?_
          rintro r w3 ⟨rfl, h3, b3, o3⟩
          exact ⟨rfl, h3, (HB.out.drew).trans b3, lt_of_heap (o3.trans HR.out), (HKC.out _ _ b3 5).trans e5, (HKC.out _ _ b3 7).trans e7⟩
        have HN2 : Hid (∀ W, Hid (One w1.heap.size w2.heap.size w1.heap.size (leB 1 kind ++ encN nums ++ leB 8 epoch) W) → Hid (Below w1.heap.size w1 W) → Hid (w2.heap.size < W.heap.size) → W.cell? ⟨w.heap.size, 5, none⟩ = some (.int .u64 epoch) → W.cell? ⟨w.heap.size, 7, none⟩ = some (.slice A locks.length c) → Calls Tryd.prog 16 #[.pointer (some ⟨w1.heap.size, 0, none⟩), .int .u64 (IntKind.u64.wrap (locks.length : Int)), .int .i64 2] W fun r w' => r = .returned (.pointer (some ⟨w1.heap.size, 0, none⟩)) ∧ Hid (One w1.heap.size w2.heap.size w1.heap.size (leB 1 kind ++ encN nums ++ leB 8 epoch ++ leB 2 locks.length) w') ∧ Hid (Below w1.heap.size w1 w') ∧ w'.cell? ⟨w.heap.size, 5, none⟩ = some (.int .u64 epoch) ∧ w'.cell? ⟨w.heap.size, 7, none⟩ = some (.slice A locks.length c)) := by
          intro W hO hB hL c5 c7
          rw [HWL.out]
          refine (one_num hO.out hL.out hB.out.size (wrong2 (locks.length : Int) (by omega) (by omega)) (by omega) (by omega) (by rw [List.length_append, HBL.out, leB_length]; decide)).mono ?_
          rintro r w4 ⟨rfl, h4, b4, o4⟩
          exact ⟨rfl, h4, hB.out.trans b4, (HKC.out _ _ b4 5).trans c5, (HKC.out _ _ b4 7).trans c7⟩
        clear he0 he1 HNOK
        go_wp2_with fail
        go_region_held3 (fun w' => w'.cell? ⟨w.heap.size, 5, none⟩ = some (.int .u64 epoch) ∧ w'.cell? ⟨w.heap.size, 7, none⟩ = some (.slice A locks.length c)) (first | exact ⟨by assumption, by assumption⟩ | go_keep)
          (first
            | (go_at_call_of 16 (Value.int .i64 8); (refine HN1.out.mono ?_); rintro r w3 ⟨rfl, h3, b3, l3, g5, g7⟩)
            | (go_at_call_of 16 (Value.int .i64 2); (refine (HN2.out _ h3 b3 l3 g5 g7).mono ?_); rintro r w4 ⟨rfl, h4, b4, f5, f7⟩))
        clear g5 g7 e5 e7 d5 d7 f5
        go_wp2_with fail
        have H4' := h4
        have B4 := b4
        clear h3 h4 b3 b4 l3 f7 HN1 HN2 HO5d HO5 hlo hlB HR HB
        go_loopw [47] (fun s47 wr => ∃ k : Nat, k ≤ locks.length ∧ s47 = .int .i64 k ∧ Hid (∃ o, One w1.heap.size o w1.heap.size (leB 1 kind ++ encN nums ++ leB 8 epoch ++ leB 2 locks.length ++ (locks.take k).flatMap encL) wr) ∧ Hid (Below w1.heap.size w1 wr)) (fun s47 _ => locks.length - (intOf s47).toNat)
        case atStart => exact ⟨0, Nat.zero_le _, rfl, ⟨_, (by have := H4'.out; show One _ _ _ (_ ++ []) _; rw [List.append_nil]; exact this)⟩, B4.out⟩
        case round =>
          clear H4' B4
          obtain ⟨k, hk, rfl, HO, HB⟩ := hrel
          by_cases hlt : k < locks.length
          · obtain ⟨b, o, rfl, c0, c1, c2⟩ := (HI.out.below (B1.out.trans (HB.out.mono (by omega)))) k hlt
            have hsn := encLs_snoc locks k hlt
            have hlo := locks_ok HLOK.out k hlt
            have hel := encLs_len (locks.take k)
            have htl : (locks.take k).length ≤ 200 := by rw [List.length_take]; omega
            generalize locks[k] = x at c0 c1 c2 hsn hlo
            obtain ⟨f, t, m⟩ := x
            simp only at c0 c1 c2 hlo
            have HSN := Lib.hid hsn
            have HLO := Lib.hid hlo
            have HPL : Hid ((leB 1 kind ++ encN nums ++ leB 8 epoch ++ leB 2 (locks.length : Int) ++ (locks.take k).flatMap encL).length ≤ 2000) := by
              show _ ≤ _
              rw [List.length_append, hel, List.length_append, List.length_append, HBL.out, leB_length, leB_length]
              omega
            clear hsn hlo hel htl
            have hst : Stp w1.heap.size wr.heap.size w1 f t m (leB 1 kind ++ encN nums ++ leB 8 epoch ++ leB 2 (locks.length : Int) ++ (locks.take k).flatMap encL) (wr.alloc (.cells #[.int .i64 f, .int .i64 t, .int .i64 m] 101)) := by
              obtain ⟨o', ho'⟩ := HO.out
              exact ⟨ho'.alloc _, HB.out.trans (al (Below.refl _ _) _ |>.mono HB.out.size), HB.out.size, heap_alloc_new wr _⟩
            generalize hbs : (leB 1 kind ++ encN nums ++ leB 8 epoch ++ leB 2 (locks.length : Int) ++ (locks.take k).flatMap encL) = bs at hst HPL
            have HBS := Lib.hid hbs
            have hstd : Stp w1.heap.size wr.heap.size w1 f t m bs (wr.alloc (.cells #[.int .i64 f, .int .i64 t, .int .i64 m] 101)).drew := hst.drew
            have HST := Lib.hid hstd
            obtain ⟨e0, e1, e2⟩ := Stp.cells hstd
            have HN1 : Hid (∀ W, Hid (Stp w1.heap.size wr.heap.size w1 f t m bs W) → Calls Tryd.prog 16 #[.pointer (some ⟨w1.heap.size, 0, none⟩), .int .u64 (IntKind.u64.wrap f), .int .i64 4] W fun r w' => r = .returned (.pointer (some ⟨w1.heap.size, 0, none⟩)) ∧ Hid (Stp w1.heap.size wr.heap.size w1 f t m (bs ++ leB 4 f) w') ∧ w'.cell? ⟨wr.heap.size, 0, none⟩ = some (.int .i64 f) ∧ w'.cell? ⟨wr.heap.size, 1, none⟩ = some (.int .i64 t) ∧ w'.cell? ⟨wr.heap.size, 2, none⟩ = some (.int .i64 m)) := by
              intro W hW
              have h1 := HLO.out
              have h2 := HPL.out
              exact stp_num hW.out (wraps_u64 f (by omega) (by omega)) (wrong4 f (by omega) (by omega)) (by omega) (by omega) (by omega)
            have HN2 : Hid (∀ W, Hid (Stp w1.heap.size wr.heap.size w1 f t m (bs ++ leB 4 f) W) → Calls Tryd.prog 16 #[.pointer (some ⟨w1.heap.size, 0, none⟩), .int .u64 (IntKind.u64.wrap t), .int .i64 4] W fun r w' => r = .returned (.pointer (some ⟨w1.heap.size, 0, none⟩)) ∧ Hid (Stp w1.heap.size wr.heap.size w1 f t m (bs ++ leB 4 f ++ leB 4 t) w') ∧ w'.cell? ⟨wr.heap.size, 0, none⟩ = some (.int .i64 f) ∧ w'.cell? ⟨wr.heap.size, 1, none⟩ = some (.int .i64 t) ∧ w'.cell? ⟨wr.heap.size, 2, none⟩ = some (.int .i64 m)) := by
              intro W hW
              have h1 := HLO.out
              have h2 := HPL.out
              exact stp_num hW.out (wraps_u64 t (by omega) (by omega)) (wrong4 t (by omega) (by omega)) (by omega) (by omega) (by rw [List.length_append, leB_length]; omega)
            have HN3 : Hid (∀ W, Hid (Stp w1.heap.size wr.heap.size w1 f t m (bs ++ leB 4 f ++ leB 4 t) W) → Calls Tryd.prog 16 #[.pointer (some ⟨w1.heap.size, 0, none⟩), .int .u64 (IntKind.u64.wrap m), .int .i64 1] W fun r w' => r = .returned (.pointer (some ⟨w1.heap.size, 0, none⟩)) ∧ Hid (Stp w1.heap.size wr.heap.size w1 f t m (bs ++ leB 4 f ++ leB 4 t ++ leB 1 m) w') ∧ w'.cell? ⟨wr.heap.size, 0, none⟩ = some (.int .i64 f) ∧ w'.cell? ⟨wr.heap.size, 1, none⟩ = some (.int .i64 t) ∧ w'.cell? ⟨wr.heap.size, 2, none⟩ = some (.int .i64 m)) := by
              intro W hW
              have h1 := HLO.out
              have h2 := HPL.out
              exact stp_num hW.out (wraps_u64 m (by omega) (by omega)) (wrong1 m (by omega) (by omega)) (by omega) (by omega) (by rw [List.length_append, List.length_append, leB_length, leB_length]; omega)
            clear hbs hst hstd
            go_wp2_with fail
            clear c0 c1 c2
            go_region_held3 (fun w' => w'.cell? ⟨wr.heap.size, 0, none⟩ = some (.int .i64 f) ∧ w'.cell? ⟨wr.heap.size, 1, none⟩ = some (.int .i64 t) ∧ w'.cell? ⟨wr.heap.size, 2, none⟩ = some (.int .i64 m)) (first | exact ⟨by assumption, by assumption, by assumption⟩ | go_keep)
              (first
                | (go_at_call_of 16 (Value.int .u64 (IntKind.u64.wrap f)); (refine (HN1.out _ HST).mono ?_); rintro r w3 ⟨rfl, h3, x0, x1, x2⟩)
                | (go_at_call_of 16 (Value.int .u64 (IntKind.u64.wrap t)); (refine (HN2.out _ h3).mono ?_); rintro r w4 ⟨rfl, h4, y0, y1, y2⟩)
                | (go_at_call_of 16 (Value.int .u64 (IntKind.u64.wrap m)); (refine (HN3.out _ h4).mono ?_); rintro r w5 ⟨rfl, h5, z0, z1, z2⟩))
            clear x0 x1 x2 y0 y1 y2 z0 z1 z2 e0 e1 e2
            go_wp2_with fail
            go_roundw
            case rel =>
              refine ⟨k + 1, by omega, by go_num, ?_, h5.out.2.1⟩
              show ∃ o, _
              refine ⟨wr.heap.size, ?_⟩
              have h6 := h5.out.1
              rw [HSN.out, ← List.append_assoc]
              rw [← HBS.out] at h6
              simpa [encL, List.append_assoc] using h6
            case measure => simp [intOf]; omega
          · have hll : locks.take k = locks := List.take_of_length_le (by omega)
            have hfin : ∃ F, Wr F w1.heap.size EM 0 wr := by
              obtain ⟨o', ho'⟩ := HO.out
              rw [hll] at ho'
              rw [HE.out]
              exact ho'.wr
            obtain ⟨F, hF⟩ := hfin
            have HF := Lib.hid hF
            clear hF hll
            have hby : bytesW (EM, 0) = bstr EM := rfl
            have HBY := Lib.hid hby
            have BF := Lib.hid (B1.out.trans (HB.out.mono (Nat.le_of_lt hlt1)))
            clear hby
            go_wp2_with fail
            refine (bytes_calls F w1.heap.size (EM, 0) _ HF.out).mono ?_
            rw [HBY.out]
            rintro e w6 ⟨rfl, m6, rfl⟩
            go_wp2_with fail
            go_ret2
            exact ⟨rfl, BF.out.trans (dr wr m6 w.heap.size BF.out.size)⟩

end Go.Proofs.YtpbmclaglkcmoaaDoor
