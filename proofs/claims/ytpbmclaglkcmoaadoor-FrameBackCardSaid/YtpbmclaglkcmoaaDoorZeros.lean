import Derived.Test.YtpbmclaglkcmoaaDoorFoot
import Derived.Laws.OwnMore
import Derived.Lib.AppendZeros
namespace Go.Proofs.YtpbmclaglkcmoaaDoor
open Go.RowKit
set_option linter.unusedVariables false
set_option linter.unusedSimpArgs false

/-! append(b, make([]byte, n)...): the translation hands the builtin the number n: as the append of a string of n bytes 0. -/
section
variable {P : Program} (w : World)

def zstr (n : Nat) : ByteArray := ⟨(List.replicate n (0 : UInt8)).toArray⟩
theorem zstr_size (n : Nat) : (zstr n).size = n := by
  show (List.replicate n (0 : UInt8)).toArray.size = n
  simp

theorem zeroCells_u8 (n : Nat) : Builtin.zeroCells (Value.int .u8 0).cells n = ((zstr n).extract 0 n).data.map fun b => Value.int .u8 b.toNat := by
  apply Array.ext'
  apply List.ext_getElem
  · simp [Builtin.zeroCells, zstr, Value.cells]
  · intro j h1 h2
    simp [Builtin.zeroCells, zstr, Value.cells, Nat.mod_one]

theorem run_append_zeros_eq (t tn u ty e : TypeId) (i : TypeInfo) (ht : P.underlying t = some (.slice e)) (htn : P.underlying tn = some (.int .i64)) (hu : P.underlying u = some .string) (hi : P.info? e = some i) (hz : i.zero = some (.int .u8 0))
    (hsize : i.size = 1) (hby : i.bytes = 1) (base : Option Addr) (sLen sCap n : Nat) (h63 : sLen + n ≤ 140737488355328) (hcap : ¬ (sLen + n ≤ sCap) → Builtin.nextslicecap (sLen + n) sCap ≤ 281474976710656) :
    (Builtin.append_ #[t, tn] ty #[.slice base sLen sCap, .int .i64 n]).run P w = (Builtin.append_ #[t, u] ty #[.slice base sLen sCap, .string (zstr n)]).run P w := by
  have hw : IntKind.i64.wrap (n : Int) = n := by rw [IntKind.wrap_i64]; omega
  have hneg : ¬ ((n : Int) < 0) := by omega
  have h48i : ¬ (281474976710656 < (n : Int)) := by omega
  have h63' : ¬ (9223372036854775807 < ((sLen : Int) + (n : Int))) := by omega
  have hzs := zstr_size n
  have hsz := zeroCells_u8 n
  by_cases hn : sLen + n ≤ sCap
  · by_cases h0 : n = 0
    · subst h0
      have hw0 : IntKind.i64.wrap 0 = 0 := rfl
      have hzd : (zstr 0).data = #[] := rfl
      simp only [Nat.add_zero] at hn
      simp [hzd, hw0, Builtin.append_, run_underlying ht, run_underlying htn, run_underlying hu, sizeOf, typeInfo, zeroValue, hi, hz, hsize, hby, asInt, asIntOf, hw, hneg, h48i, hn, Builtin.lenOf, hzs, Builtin.firstCells, hsz]
    · simp [Builtin.append_, run_underlying ht, run_underlying htn, run_underlying hu, sizeOf, typeInfo, zeroValue, hi, hz, hsize, hby, asInt, asIntOf, hw, hneg, h48i, hn, Builtin.lenOf, hzs, Builtin.firstCells, hsz, h0]
  · have h48 : ¬ (281474976710656 < Builtin.nextslicecap (sLen + n) sCap) := by have := hcap hn; omega
    by_cases h0 : n = 0
    · subst h0
      have hw0 : IntKind.i64.wrap 0 = 0 := rfl
      have hzd : (zstr 0).data = #[] := rfl
      have h63'' : ¬ (9223372036854775807 < (sLen : Int)) := by omega
      simp only [Nat.add_zero] at hn h48
      simp [hzd, h63'', hw0, Builtin.append_, run_underlying ht, run_underlying htn, run_underlying hu, sizeOf, typeInfo, zeroValue, hi, hz, hsize, hby, asInt, asIntOf, hw, hneg, h48i, hn, Builtin.lenOf, hzs, Builtin.firstCells, hsz, h63', h48]
    · simp [Builtin.append_, run_underlying ht, run_underlying htn, run_underlying hu, sizeOf, typeInfo, zeroValue, hi, hz, hsize, hby, asInt, asIntOf, hw, hneg, h48i, hn, Builtin.lenOf, hzs, Builtin.firstCells, hsz, h0, h63', h48]

theorem run_append_own_zeros2 (t tn u ty e : TypeId) (i : TypeInfo) (ht : P.underlying t = some (.slice e)) (htn : P.underlying tn = some (.int .i64)) (hu : P.underlying u = some .string) (hi : P.info? e = some i) (hz : i.zero = some (.int .u8 0))
    (hsize : i.size = 1) (hby : i.bytes = 1)
    (v : Value) (n : Nat) (xs : List Value) (hown : w.ownsRow 0 e 1 v n xs) (m : Nat)
    (hbytes : n + m ≤ 140737488355328) :
    ∃ v' w', (Builtin.append_ #[t, tn] ty #[v, .int .i64 m]).run P w = .ok v' w' ∧ w'.ownsRow 0 e 1 v' (n + m) (xs ++ List.replicate m (.int .u8 0)) ∧ w.grownBy w' v.ownBlock ∧
      ∀ k, v'.ownBlock = some k → v.ownBlock = some k ∨ w.heap.size ≤ k := by
  obtain ⟨v', w', hr, h2, h3, h4⟩ := run_append_own_string2 (P := P) w t u ty e i ht hu hi hz hsize hby v n xs hown (zstr m) (by rw [zstr_size]; unfold maxLen; omega) (by rw [zstr_size]; exact hbytes)
  rw [zstr_size] at h2
  have hc : Lib.strCells (zstr m) = List.replicate m (.int .u8 0) := by simp [Lib.strCells, zstr]
  rw [hc] at h2
  refine ⟨v', w', ?_, h2, h3, h4⟩
  obtain ⟨A, c, rfl⟩ := own_slice w hown
  rw [run_append_zeros_eq w t tn u ty e i ht htn hu hi hz hsize hby A n c m hbytes ?_]
  · exact hr
  · intro hn
    have := growslice_fits (need := n + m) (old := c) (bytes := 1) (by omega) (by omega)
    omega

theorem step_append_own_zeros2 {ops : Array Oper} {o : Oper} {a : Act} {K : Act → World → Prop} {Q : Exit → Act → World → Prop} {E : Prop} (hgd : o.guard = none) (s x : Operand) (t tn u : TypeId)
    (ho : o.op = .call { callee := .builtin .append, args := #[s, x], argTypes := #[t, tn] })
    (e : TypeId) (i : TypeInfo) (ht : P.underlying t = some (.slice e)) (htn : P.underlying tn = some (.int .i64)) (hu : P.underlying u = some .string) (hi : P.info? e = some i) (hz : i.zero = some (.int .u8 0))
    (hsize : i.size = 1) (hby : i.bytes = 1)
    (v : Value) (n : Nat) (xs : List Value) (hs : a.eval s = v) (hown : w.ownsRow 0 e 1 v n xs) (m : Nat) (mi : Int) (hx : a.eval x = .int .i64 mi) (hmi : mi = (m : Int))
    (hbytes : n + m ≤ 140737488355328)
    (h : ∀ v' w', w'.ownsRow 0 e 1 v' (n + m) (xs ++ List.replicate m (.int .u8 0)) → w.grownBy w' v.ownBlock → (∀ k, v'.ownBlock = some k → v.ownBlock = some k ∨ w.heap.size ≤ k) → K (a.put o.dst v') w') :
    if Region.wanted o (yielded ops a.tmps) = true then Oper.wp P o a w K Q else E := by
  have hw : Region.wanted o (yielded ops a.tmps) = true := by simp [Region.wanted, hgd]
  rw [if_pos hw]
  subst hmi
  obtain ⟨v', w', hr, h2, h3, h4⟩ := run_append_own_zeros2 (P := P) w t tn u o.type e i ht htn hu hi hz hsize hby v n xs hown m hbytes
  unfold Oper.wp execOp
  simp only [ho, resolve, invoke, builtin, Sem.run_bind, Sem.run_pure, Result.andThen_ok, List.map_toArray, List.map_cons, List.map_nil, hs, hx, hr]
  exact h v' w' h2 h3 h4
end
end Go.Proofs.YtpbmclaglkcmoaaDoor
