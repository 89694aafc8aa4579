import Derived.Test.YtpbmclaglkcmoaaSumBack
import Derived.Test.YtpbmclaglkcmoaaRegInv
namespace Go.Proofs.Ytpbmclaglkcmoaa
open Go.RowKit
set_option linter.unusedVariables false

theorem of_list1 (W : World) (b : Nat) (x : ByteArray) (q : List UInt8) (hq : catL [x] = q) (hx : x.size ≤ 10000) (h0 : W.cell? ⟨b, 0, none⟩ = some (.string x)) :
    Calls Try.prog 34 #[.slice (some ⟨b, 0, none⟩) 1 1] W fun r w' => r = .returned (.int .u32 (crc q : Nat)) ∧ W = w' := by
  subst hq
  refine of_calls (some ⟨b, 0, none⟩) 1 [x] W (fun j h => ⟨_, rfl, ?_⟩) (by simp) (by simpa using by omega)
  have hj : j = 0 := by simp at h; omega
  subst hj
  rw [Addr.add_lit]
  exact h0

theorem of_list2 (W : World) (b : Nat) (x y : ByteArray) (q : List UInt8) (hq : catL [x, y] = q) (hx : x.size ≤ 10000) (hy : y.size ≤ 10000) (h0 : W.cell? ⟨b, 0, none⟩ = some (.string x)) (h1 : W.cell? ⟨b, 1, none⟩ = some (.string y)) :
    Calls Try.prog 34 #[.slice (some ⟨b, 0, none⟩) 2 2] W fun r w' => r = .returned (.int .u32 (crc q : Nat)) ∧ W = w' := by
  subst hq
  refine of_calls (some ⟨b, 0, none⟩) 2 [x, y] W (fun j h => ⟨_, rfl, ?_⟩) (by simp) (by simp; omega)
  have hj : j = 0 ∨ j = 1 := by simp at h; omega
  rw [Addr.add_lit]
  rcases hj with rfl | rfl
  · exact h0
  · exact h1

theorem of_list3 (W : World) (b : Nat) (x y z : ByteArray) (q : List UInt8) (hq : catL [x, y, z] = q) (hx : x.size ≤ 10000) (hy : y.size ≤ 10000) (hz : z.size ≤ 10000) (h0 : W.cell? ⟨b, 0, none⟩ = some (.string x)) (h1 : W.cell? ⟨b, 1, none⟩ = some (.string y)) (h2 : W.cell? ⟨b, 2, none⟩ = some (.string z)) :
    Calls Try.prog 34 #[.slice (some ⟨b, 0, none⟩) 3 3] W fun r w' => r = .returned (.int .u32 (crc q : Nat)) ∧ W = w' := by
  subst hq
  refine of_calls (some ⟨b, 0, none⟩) 3 [x, y, z] W (fun j h => ⟨_, rfl, ?_⟩) (by simp) (by simp; omega)
  have hj : j = 0 ∨ j = 1 ∨ j = 2 := by simp at h; omega
  rw [Addr.add_lit]
  rcases hj with rfl | rfl | rfl
  · exact h0
  · exact h1
  · exact h2

theorem of_nil (W : World) :
    Calls Try.prog 34 #[.slice none 0 0] W fun r w' => r = .returned (.int .u32 (crc [] : Nat)) ∧ W = w' :=
  of_calls none 0 [] W (fun j h => by simp at h) (by simp) (by simp)

theorem seal_len (s : ByteArray) (W : World) (hs : s.size ≤ 3000) :
    Calls Try.prog 36 #[.string s] W fun r w' => ∃ q : ByteArray, q.size = s.size + 4 ∧ r = .returned (.string q) ∧ Below W.heap.size W w' := by
  refine (seal_at s W hs).mono ?_
  rintro e w' ⟨rfl, hb⟩
  exact ⟨_, by rw [bstr_size, List.length_append, seal4_length, toList_length]; omega, rfl, hb⟩


theorem strs_ok (w : World) (l : List ByteArray) (t : TypeId) : (RK.strs l).ok (.slice (some ⟨w.heap.size, 0, none⟩) l.length l.length) (w.alloc (.cells (l.map Value.string).toArray t)) :=
  ⟨w.heap.size, rfl, fun j hj => by rw [Lib.cell_of_heap (heap_alloc_new w _)]; simp [hj]⟩

def partsK (s t : ByteArray) (i j : Nat) (P Q : List UInt8) : List RK := [(.val (.bool true)), (.val (.bool true)), (.val (.string s)), (.val (.int .i64 (i : Int))), (.val (.string (s.extract 0 i))), (.val (.string s)), (.val (.int .i64 (i : Int))), (.val (.int .i64 (j : Int))), (.val (.string (s.extract i j))), (.val (.string s)), (.val (.int .i64 (j : Int))), (.val (.string (s.extract j s.size))), (.strs [s.extract 0 i, s.extract i j, s.extract j s.size]), (.val (.int .u32 (crc P : Nat))), (.val (.string s)), (.strs [s]), (.val (.int .u32 (crc P : Nat))), (.val (.bool true)), (.val (.bool true)), (.val (.bool true)), (.val (.string s)), (.val (.string t)), (.strs [s, t]), (.val (.int .u32 (crc Q : Nat))), (.val (.string s)), (.val (.string t)), (.val (.string (s ++ t))), (.strs [s ++ t]), (.val (.int .u32 (crc Q : Nat))), (.val (.bool true)), (.val (.bool true)), (.val (.bool true)), (.val (.int .u32 (crc [] : Nat))), (.strs [{ data := #[] }, { data := #[] }]), (.val (.int .u32 (crc [] : Nat))), (.val (.bool true)), (.val (.bool true)), (.val (.bool true)), (.val (.string s)), (.str (s.size + 4)), (.val (.int .i64 ((s.size : Int) + 4))), (.val (.string s)), (.val (.int .i64 (s.size : Int))), (.val (.int .i64 ((s.size : Int) + 4))), (.val (.bool true)), (.val (.bool true)), (.val (.bool true))]

set_option maxHeartbeats 16000000 in
set_option maxRecDepth 100000 in
theorem sumParts_main (s t : ByteArray) (i j : Nat) (w : World) (hs : s.size ≤ 3000) (ht : t.size ≤ 3000) (hij : i ≤ j) (hj : j ≤ s.size) :
    Calls Try.prog 10 #[.string s, .string t, .int .i64 i, .int .i64 j] w fun r w' => r = .returned (.bool true) ∧ Below w.heap.size w w' := by
  have e3 : Hid (catL [s.extract 0 i, s.extract i j, s.extract j s.size] = s.data.toList) := by
    show catL _ = _
    simp only [catL, List.flatMap_cons, List.flatMap_nil, List.append_nil]
    rw [ext_take, ext_drop, ByteArray.data_extract, Array.toList_extract]
    have h1 : List.drop j s.data.toList = List.drop (j - i) (List.drop i s.data.toList) := by rw [List.drop_drop]; congr 1; omega
    rw [h1, List.extract_eq_take_drop, List.take_append_drop, List.take_append_drop]
  have e1 : Hid (catL [s] = s.data.toList) := by show catL _ = _; simp [catL]
  have e2 : Hid (catL [s, t] = s.data.toList ++ t.data.toList) := by show catL _ = _; simp [catL]
  have e4 : Hid (catL [s ++ t] = s.data.toList ++ t.data.toList) := by show catL _ = _; simp [catL]
  have e5 : Hid (catL [{ data := #[] }, { data := #[] }] = []) := by show catL _ = _; simp [catL]
  have hst : (s ++ t).size ≤ 6000 := by rw [ByteArray.size_append]; omega
  generalize hQ : s.data.toList ++ t.data.toList = Q at e2 e4
  generalize hP : s.data.toList = P at e1 e3
  clear hQ hP
  have hx0 : (s.extract 0 i).size ≤ 10000 := by simp; omega
  have hx1 : (s.extract i j).size ≤ 10000 := by simp; omega
  have hx2 : (s.extract j s.size).size ≤ 10000 := by simp; omega
  have hs1 : s.size ≤ 10000 := by omega
  have ht1 : t.size ≤ 10000 := by omega
  have hst1 : (s ++ t).size ≤ 10000 := by omega
  have hfit : ¬ 9223372036854775807 < s.size + t.size := by omega
  have hi0 : (0 : Int) ≤ (i : Int) := Int.natCast_nonneg _
  have hj0 : (0 : Int) ≤ (j : Int) := Int.natCast_nonneg _
  have hiji : (i : Int) ≤ (j : Int) := by omega
  have hji : (j : Int) ≤ (s.size : Int) := by omega
  have hii : (i : Int) ≤ (s.size : Int) := by omega
  go_enter Try.func10, Try.ntmps10
  go_wp2_with fail
  have hw4 : IntKind.i64.wrap ((s.size : Int) + 4) = (s.size : Int) + 4 := by rw [IntKind.wrap_i64]; omega
  refine wp_region_inv (by kernel_rfl) (fun w' => Below w.heap.size w w') (fun w1 w2 => Below w1.heap.size w1 w2) (fun n v w' => ((partsK s t i j P Q).getD n (.val undef)).ok v w') (by kernel_rfl) (by kernel_rfl) (by kernel_rfl) (fun n v w1 w2 h _ hb => RK.keep _ h hb) (Below.refl _ w).drew ?_ ?_
  · refine ⟨?_, ?_, ?_, ?_, ?_, ?_, ?_, ?_, ?_, ?_, ?_, ?_, ?_, ?_, ?_, ?_, ?_, ?_, ?_, ?_, ?_, ?_, ?_, ?_, ?_, ?_, ?_, ?_, ?_, ?_, ?_, ?_, ?_, ?_, ?_, ?_, ?_, ?_, ?_, ?_, ?_, ?_, ?_, ?_, ?_, ?_, ?_, trivial⟩
    · intro a w1 hdef hsz hoth hJ hpre K hK
      rw [if_pos (wanted_none rfl)]
      clear hpre hoth hdef hsz
      go_simp
      refine (sumAlive_calls _).mono ?_
      rintro r w2 ⟨rfl, b2⟩
      exact hK _ _ (bl hJ b2) b2 rfl
    · intro a w1 hdef hsz hoth hJ hpre K hK
      obtain ⟨v0, t0, f0⟩ := pre_get hpre 0 (by kernel_rfl) 33 rfl (by rw [hsz]; show (33 : Nat) < 79; decide)
      obtain rfl : v0 = (.bool true) := f0
      rw [if_pos (wanted_none rfl)]
      clear hpre hoth hdef hsz
      go_simp
      exact hK _ _ hJ (Below.refl _ _) rfl
    · intro a w1 hdef hsz hoth hJ hpre K hK
      obtain ⟨v1, t1, f1⟩ := pre_get hpre 1 (by kernel_rfl) 34 rfl (by rw [hsz]; show (34 : Nat) < 79; decide)
      obtain rfl : v1 = (.bool true) := f1
      have t0 := par_get hoth hsz 0 (by kernel_rfl) _ rfl
      rw [if_pos (wanted_get 1 true rfl 34 rfl t1)]
      clear hpre hoth hdef hsz
      go_simp
      exact hK _ _ hJ (Below.refl _ _) rfl
    · intro a w1 hdef hsz hoth hJ hpre K hK
      obtain ⟨v1, t1, f1⟩ := pre_get hpre 1 (by kernel_rfl) 34 rfl (by rw [hsz]; show (34 : Nat) < 79; decide)
      obtain rfl : v1 = (.bool true) := f1
      have t0 := par_get hoth hsz 2 (by kernel_rfl) _ rfl
      rw [if_pos (wanted_get 1 true rfl 34 rfl t1)]
      clear hpre hoth hdef hsz
      go_simp
      exact hK _ _ hJ (Below.refl _ _) rfl
    · intro a w1 hdef hsz hoth hJ hpre K hK
      obtain ⟨v2, t2, f2⟩ := pre_get hpre 2 (by kernel_rfl) 35 rfl (by rw [hsz]; show (35 : Nat) < 79; decide)
      obtain rfl : v2 = (.string s) := f2
      obtain ⟨v3, t3, f3⟩ := pre_get hpre 3 (by kernel_rfl) 36 rfl (by rw [hsz]; show (36 : Nat) < 79; decide)
      obtain rfl : v3 = (.int .i64 (i : Int)) := f3
      obtain ⟨v1, t1, f1⟩ := pre_get hpre 1 (by kernel_rfl) 34 rfl (by rw [hsz]; show (34 : Nat) < 79; decide)
      obtain rfl : v1 = (.bool true) := f1
      rw [if_pos (wanted_get 1 true rfl 34 rfl t1)]
      clear hpre hoth hdef hsz
      go_simp
      exact hK _ _ hJ (Below.refl _ _) rfl
    · intro a w1 hdef hsz hoth hJ hpre K hK
      obtain ⟨v1, t1, f1⟩ := pre_get hpre 1 (by kernel_rfl) 34 rfl (by rw [hsz]; show (34 : Nat) < 79; decide)
      obtain rfl : v1 = (.bool true) := f1
      have t0 := par_get hoth hsz 0 (by kernel_rfl) _ rfl
      rw [if_pos (wanted_get 1 true rfl 34 rfl t1)]
      clear hpre hoth hdef hsz
      go_simp
      exact hK _ _ hJ (Below.refl _ _) rfl
    · intro a w1 hdef hsz hoth hJ hpre K hK
      obtain ⟨v1, t1, f1⟩ := pre_get hpre 1 (by kernel_rfl) 34 rfl (by rw [hsz]; show (34 : Nat) < 79; decide)
      obtain rfl : v1 = (.bool true) := f1
      have t0 := par_get hoth hsz 2 (by kernel_rfl) _ rfl
      rw [if_pos (wanted_get 1 true rfl 34 rfl t1)]
      clear hpre hoth hdef hsz
      go_simp
      exact hK _ _ hJ (Below.refl _ _) rfl
    · intro a w1 hdef hsz hoth hJ hpre K hK
      obtain ⟨v1, t1, f1⟩ := pre_get hpre 1 (by kernel_rfl) 34 rfl (by rw [hsz]; show (34 : Nat) < 79; decide)
      obtain rfl : v1 = (.bool true) := f1
      have t0 := par_get hoth hsz 3 (by kernel_rfl) _ rfl
      rw [if_pos (wanted_get 1 true rfl 34 rfl t1)]
      clear hpre hoth hdef hsz
      go_simp
      exact hK _ _ hJ (Below.refl _ _) rfl
    · intro a w1 hdef hsz hoth hJ hpre K hK
      obtain ⟨v5, t5, f5⟩ := pre_get hpre 5 (by kernel_rfl) 38 rfl (by rw [hsz]; show (38 : Nat) < 79; decide)
      obtain rfl : v5 = (.string s) := f5
      obtain ⟨v6, t6, f6⟩ := pre_get hpre 6 (by kernel_rfl) 39 rfl (by rw [hsz]; show (39 : Nat) < 79; decide)
      obtain rfl : v6 = (.int .i64 (i : Int)) := f6
      obtain ⟨v7, t7, f7⟩ := pre_get hpre 7 (by kernel_rfl) 40 rfl (by rw [hsz]; show (40 : Nat) < 79; decide)
      obtain rfl : v7 = (.int .i64 (j : Int)) := f7
      obtain ⟨v1, t1, f1⟩ := pre_get hpre 1 (by kernel_rfl) 34 rfl (by rw [hsz]; show (34 : Nat) < 79; decide)
      obtain rfl : v1 = (.bool true) := f1
      rw [if_pos (wanted_get 1 true rfl 34 rfl t1)]
      clear hpre hoth hdef hsz
      go_simp
      exact hK _ _ hJ (Below.refl _ _) rfl
    · intro a w1 hdef hsz hoth hJ hpre K hK
      obtain ⟨v1, t1, f1⟩ := pre_get hpre 1 (by kernel_rfl) 34 rfl (by rw [hsz]; show (34 : Nat) < 79; decide)
      obtain rfl : v1 = (.bool true) := f1
      have t0 := par_get hoth hsz 0 (by kernel_rfl) _ rfl
      rw [if_pos (wanted_get 1 true rfl 34 rfl t1)]
      clear hpre hoth hdef hsz
      go_simp
      exact hK _ _ hJ (Below.refl _ _) rfl
    · intro a w1 hdef hsz hoth hJ hpre K hK
      obtain ⟨v1, t1, f1⟩ := pre_get hpre 1 (by kernel_rfl) 34 rfl (by rw [hsz]; show (34 : Nat) < 79; decide)
      obtain rfl : v1 = (.bool true) := f1
      have t0 := par_get hoth hsz 3 (by kernel_rfl) _ rfl
      rw [if_pos (wanted_get 1 true rfl 34 rfl t1)]
      clear hpre hoth hdef hsz
      go_simp
      exact hK _ _ hJ (Below.refl _ _) rfl
    · intro a w1 hdef hsz hoth hJ hpre K hK
      obtain ⟨v9, t9, f9⟩ := pre_get hpre 9 (by kernel_rfl) 42 rfl (by rw [hsz]; show (42 : Nat) < 79; decide)
      obtain rfl : v9 = (.string s) := f9
      obtain ⟨v10, t10, f10⟩ := pre_get hpre 10 (by kernel_rfl) 43 rfl (by rw [hsz]; show (43 : Nat) < 79; decide)
      obtain rfl : v10 = (.int .i64 (j : Int)) := f10
      obtain ⟨v1, t1, f1⟩ := pre_get hpre 1 (by kernel_rfl) 34 rfl (by rw [hsz]; show (34 : Nat) < 79; decide)
      obtain rfl : v1 = (.bool true) := f1
      rw [if_pos (wanted_get 1 true rfl 34 rfl t1)]
      clear hpre hoth hdef hsz
      go_simp
      exact hK _ _ hJ (Below.refl _ _) rfl
    · intro a w1 hdef hsz hoth hJ hpre K hK
      obtain ⟨v4, t4, f4⟩ := pre_get hpre 4 (by kernel_rfl) 37 rfl (by rw [hsz]; show (37 : Nat) < 79; decide)
      obtain rfl : v4 = (.string (s.extract 0 i)) := f4
      obtain ⟨v8, t8, f8⟩ := pre_get hpre 8 (by kernel_rfl) 41 rfl (by rw [hsz]; show (41 : Nat) < 79; decide)
      obtain rfl : v8 = (.string (s.extract i j)) := f8
      obtain ⟨v11, t11, f11⟩ := pre_get hpre 11 (by kernel_rfl) 44 rfl (by rw [hsz]; show (44 : Nat) < 79; decide)
      obtain rfl : v11 = (.string (s.extract j s.size)) := f11
      obtain ⟨v1, t1, f1⟩ := pre_get hpre 1 (by kernel_rfl) 34 rfl (by rw [hsz]; show (34 : Nat) < 79; decide)
      obtain rfl : v1 = (.bool true) := f1
      rw [if_pos (wanted_get 1 true rfl 34 rfl t1)]
      clear hpre hoth hdef hsz
      go_simp
      exact hK _ _ (al hJ _) (al (Below.refl _ w1) _) (strs_ok w1 _ _)
    · intro a w1 hdef hsz hoth hJ hpre K hK
      obtain ⟨v12, t12, f12⟩ := pre_get hpre 12 (by kernel_rfl) 45 rfl (by rw [hsz]; show (45 : Nat) < 79; decide)
      obtain ⟨b12, rfl, f12⟩ := f12
      obtain ⟨v1, t1, f1⟩ := pre_get hpre 1 (by kernel_rfl) 34 rfl (by rw [hsz]; show (34 : Nat) < 79; decide)
      obtain rfl : v1 = (.bool true) := f1
      rw [if_pos (wanted_get 1 true rfl 34 rfl t1)]
      clear hpre hoth hdef hsz
      go_simp
      refine (of_list3 _ _ (s.extract 0 i) (s.extract i j) (s.extract j s.size) _ e3.out hx0 hx1 hx2 (f12 0 (by simp)) (f12 1 (by simp)) (f12 2 (by simp))).mono ?_
      rintro r w2 ⟨rfl, rfl⟩
      exact hK _ _ hJ (Below.refl _ _) rfl
    · intro a w1 hdef hsz hoth hJ hpre K hK
      obtain ⟨v1, t1, f1⟩ := pre_get hpre 1 (by kernel_rfl) 34 rfl (by rw [hsz]; show (34 : Nat) < 79; decide)
      obtain rfl : v1 = (.bool true) := f1
      have t0 := par_get hoth hsz 0 (by kernel_rfl) _ rfl
      rw [if_pos (wanted_get 1 true rfl 34 rfl t1)]
      clear hpre hoth hdef hsz
      go_simp
      exact hK _ _ hJ (Below.refl _ _) rfl
    · intro a w1 hdef hsz hoth hJ hpre K hK
      obtain ⟨v14, t14, f14⟩ := pre_get hpre 14 (by kernel_rfl) 47 rfl (by rw [hsz]; show (47 : Nat) < 79; decide)
      obtain rfl : v14 = (.string s) := f14
      obtain ⟨v1, t1, f1⟩ := pre_get hpre 1 (by kernel_rfl) 34 rfl (by rw [hsz]; show (34 : Nat) < 79; decide)
      obtain rfl : v1 = (.bool true) := f1
      rw [if_pos (wanted_get 1 true rfl 34 rfl t1)]
      clear hpre hoth hdef hsz
      go_simp
      exact hK _ _ (al hJ _) (al (Below.refl _ w1) _) (strs_ok w1 _ _)
    · intro a w1 hdef hsz hoth hJ hpre K hK
      obtain ⟨v15, t15, f15⟩ := pre_get hpre 15 (by kernel_rfl) 48 rfl (by rw [hsz]; show (48 : Nat) < 79; decide)
      obtain ⟨b15, rfl, f15⟩ := f15
      obtain ⟨v1, t1, f1⟩ := pre_get hpre 1 (by kernel_rfl) 34 rfl (by rw [hsz]; show (34 : Nat) < 79; decide)
      obtain rfl : v1 = (.bool true) := f1
      rw [if_pos (wanted_get 1 true rfl 34 rfl t1)]
      clear hpre hoth hdef hsz
      go_simp
      refine (of_list1 _ _ s _ e1.out hs1 (f15 0 (by simp))).mono ?_
      rintro r w2 ⟨rfl, rfl⟩
      exact hK _ _ hJ (Below.refl _ _) rfl
    · intro a w1 hdef hsz hoth hJ hpre K hK
      obtain ⟨v13, t13, f13⟩ := pre_get hpre 13 (by kernel_rfl) 46 rfl (by rw [hsz]; show (46 : Nat) < 79; decide)
      obtain rfl : v13 = (.int .u32 (crc P : Nat)) := f13
      obtain ⟨v16, t16, f16⟩ := pre_get hpre 16 (by kernel_rfl) 49 rfl (by rw [hsz]; show (49 : Nat) < 79; decide)
      obtain rfl : v16 = (.int .u32 (crc P : Nat)) := f16
      obtain ⟨v1, t1, f1⟩ := pre_get hpre 1 (by kernel_rfl) 34 rfl (by rw [hsz]; show (34 : Nat) < 79; decide)
      obtain rfl : v1 = (.bool true) := f1
      rw [if_pos (wanted_get 1 true rfl 34 rfl t1)]
      clear hpre hoth hdef hsz
      go_simp
      exact hK _ _ hJ (Below.refl _ _) rfl
    · intro a w1 hdef hsz hoth hJ hpre K hK
      obtain ⟨v1, t1, f1⟩ := pre_get hpre 1 (by kernel_rfl) 34 rfl (by rw [hsz]; show (34 : Nat) < 79; decide)
      obtain rfl : v1 = (.bool true) := f1
      obtain ⟨v17, t17, f17⟩ := pre_get hpre 17 (by kernel_rfl) 50 rfl (by rw [hsz]; show (50 : Nat) < 79; decide)
      obtain rfl : v17 = (.bool true) := f17
      rw [if_pos (wanted_none rfl)]
      clear hpre hoth hdef hsz
      go_simp
      exact hK _ _ hJ (Below.refl _ _) rfl
    · intro a w1 hdef hsz hoth hJ hpre K hK
      obtain ⟨v18, t18, f18⟩ := pre_get hpre 18 (by kernel_rfl) 51 rfl (by rw [hsz]; show (51 : Nat) < 79; decide)
      obtain rfl : v18 = (.bool true) := f18
      rw [if_pos (wanted_none rfl)]
      clear hpre hoth hdef hsz
      go_simp
      exact hK _ _ hJ (Below.refl _ _) rfl
    · intro a w1 hdef hsz hoth hJ hpre K hK
      obtain ⟨v19, t19, f19⟩ := pre_get hpre 19 (by kernel_rfl) 52 rfl (by rw [hsz]; show (52 : Nat) < 79; decide)
      obtain rfl : v19 = (.bool true) := f19
      have t0 := par_get hoth hsz 0 (by kernel_rfl) _ rfl
      rw [if_pos (wanted_get 19 true rfl 52 rfl t19)]
      clear hpre hoth hdef hsz
      go_simp
      exact hK _ _ hJ (Below.refl _ _) rfl
    · intro a w1 hdef hsz hoth hJ hpre K hK
      obtain ⟨v19, t19, f19⟩ := pre_get hpre 19 (by kernel_rfl) 52 rfl (by rw [hsz]; show (52 : Nat) < 79; decide)
      obtain rfl : v19 = (.bool true) := f19
      have t0 := par_get hoth hsz 1 (by kernel_rfl) _ rfl
      rw [if_pos (wanted_get 19 true rfl 52 rfl t19)]
      clear hpre hoth hdef hsz
      go_simp
      exact hK _ _ hJ (Below.refl _ _) rfl
    · intro a w1 hdef hsz hoth hJ hpre K hK
      obtain ⟨v20, t20, f20⟩ := pre_get hpre 20 (by kernel_rfl) 53 rfl (by rw [hsz]; show (53 : Nat) < 79; decide)
      obtain rfl : v20 = (.string s) := f20
      obtain ⟨v21, t21, f21⟩ := pre_get hpre 21 (by kernel_rfl) 54 rfl (by rw [hsz]; show (54 : Nat) < 79; decide)
      obtain rfl : v21 = (.string t) := f21
      obtain ⟨v19, t19, f19⟩ := pre_get hpre 19 (by kernel_rfl) 52 rfl (by rw [hsz]; show (52 : Nat) < 79; decide)
      obtain rfl : v19 = (.bool true) := f19
      rw [if_pos (wanted_get 19 true rfl 52 rfl t19)]
      clear hpre hoth hdef hsz
      go_simp
      exact hK _ _ (al hJ _) (al (Below.refl _ w1) _) (strs_ok w1 _ _)
    · intro a w1 hdef hsz hoth hJ hpre K hK
      obtain ⟨v22, t22, f22⟩ := pre_get hpre 22 (by kernel_rfl) 55 rfl (by rw [hsz]; show (55 : Nat) < 79; decide)
      obtain ⟨b22, rfl, f22⟩ := f22
      obtain ⟨v19, t19, f19⟩ := pre_get hpre 19 (by kernel_rfl) 52 rfl (by rw [hsz]; show (52 : Nat) < 79; decide)
      obtain rfl : v19 = (.bool true) := f19
      rw [if_pos (wanted_get 19 true rfl 52 rfl t19)]
      clear hpre hoth hdef hsz
      go_simp
      refine (of_list2 _ _ s t _ e2.out hs1 ht1 (f22 0 (by simp)) (f22 1 (by simp))).mono ?_
      rintro r w2 ⟨rfl, rfl⟩
      exact hK _ _ hJ (Below.refl _ _) rfl
    · intro a w1 hdef hsz hoth hJ hpre K hK
      obtain ⟨v19, t19, f19⟩ := pre_get hpre 19 (by kernel_rfl) 52 rfl (by rw [hsz]; show (52 : Nat) < 79; decide)
      obtain rfl : v19 = (.bool true) := f19
      have t0 := par_get hoth hsz 0 (by kernel_rfl) _ rfl
      rw [if_pos (wanted_get 19 true rfl 52 rfl t19)]
      clear hpre hoth hdef hsz
      go_simp
      exact hK _ _ hJ (Below.refl _ _) rfl
    · intro a w1 hdef hsz hoth hJ hpre K hK
      obtain ⟨v19, t19, f19⟩ := pre_get hpre 19 (by kernel_rfl) 52 rfl (by rw [hsz]; show (52 : Nat) < 79; decide)
      obtain rfl : v19 = (.bool true) := f19
      have t0 := par_get hoth hsz 1 (by kernel_rfl) _ rfl
      rw [if_pos (wanted_get 19 true rfl 52 rfl t19)]
      clear hpre hoth hdef hsz
      go_simp
      exact hK _ _ hJ (Below.refl _ _) rfl
    · intro a w1 hdef hsz hoth hJ hpre K hK
      obtain ⟨v24, t24, f24⟩ := pre_get hpre 24 (by kernel_rfl) 57 rfl (by rw [hsz]; show (57 : Nat) < 79; decide)
      obtain rfl : v24 = (.string s) := f24
      obtain ⟨v25, t25, f25⟩ := pre_get hpre 25 (by kernel_rfl) 58 rfl (by rw [hsz]; show (58 : Nat) < 79; decide)
      obtain rfl : v25 = (.string t) := f25
      obtain ⟨v19, t19, f19⟩ := pre_get hpre 19 (by kernel_rfl) 52 rfl (by rw [hsz]; show (52 : Nat) < 79; decide)
      obtain rfl : v19 = (.bool true) := f19
      rw [if_pos (wanted_get 19 true rfl 52 rfl t19)]
      clear hpre hoth hdef hsz
      go_simp
      exact hK _ _ hJ (Below.refl _ _) rfl
    · intro a w1 hdef hsz hoth hJ hpre K hK
      obtain ⟨v26, t26, f26⟩ := pre_get hpre 26 (by kernel_rfl) 59 rfl (by rw [hsz]; show (59 : Nat) < 79; decide)
      obtain rfl : v26 = (.string (s ++ t)) := f26
      obtain ⟨v19, t19, f19⟩ := pre_get hpre 19 (by kernel_rfl) 52 rfl (by rw [hsz]; show (52 : Nat) < 79; decide)
      obtain rfl : v19 = (.bool true) := f19
      rw [if_pos (wanted_get 19 true rfl 52 rfl t19)]
      clear hpre hoth hdef hsz
      go_simp
      exact hK _ _ (al hJ _) (al (Below.refl _ w1) _) (strs_ok w1 _ _)
    · intro a w1 hdef hsz hoth hJ hpre K hK
      obtain ⟨v27, t27, f27⟩ := pre_get hpre 27 (by kernel_rfl) 60 rfl (by rw [hsz]; show (60 : Nat) < 79; decide)
      obtain ⟨b27, rfl, f27⟩ := f27
      obtain ⟨v19, t19, f19⟩ := pre_get hpre 19 (by kernel_rfl) 52 rfl (by rw [hsz]; show (52 : Nat) < 79; decide)
      obtain rfl : v19 = (.bool true) := f19
      rw [if_pos (wanted_get 19 true rfl 52 rfl t19)]
      clear hpre hoth hdef hsz
      go_simp
      refine (of_list1 _ _ (s ++ t) _ e4.out hst1 (f27 0 (by simp))).mono ?_
      rintro r w2 ⟨rfl, rfl⟩
      exact hK _ _ hJ (Below.refl _ _) rfl
    · intro a w1 hdef hsz hoth hJ hpre K hK
      obtain ⟨v23, t23, f23⟩ := pre_get hpre 23 (by kernel_rfl) 56 rfl (by rw [hsz]; show (56 : Nat) < 79; decide)
      obtain rfl : v23 = (.int .u32 (crc Q : Nat)) := f23
      obtain ⟨v28, t28, f28⟩ := pre_get hpre 28 (by kernel_rfl) 61 rfl (by rw [hsz]; show (61 : Nat) < 79; decide)
      obtain rfl : v28 = (.int .u32 (crc Q : Nat)) := f28
      obtain ⟨v19, t19, f19⟩ := pre_get hpre 19 (by kernel_rfl) 52 rfl (by rw [hsz]; show (52 : Nat) < 79; decide)
      obtain rfl : v19 = (.bool true) := f19
      rw [if_pos (wanted_get 19 true rfl 52 rfl t19)]
      clear hpre hoth hdef hsz
      go_simp
      exact hK _ _ hJ (Below.refl _ _) rfl
    · intro a w1 hdef hsz hoth hJ hpre K hK
      obtain ⟨v19, t19, f19⟩ := pre_get hpre 19 (by kernel_rfl) 52 rfl (by rw [hsz]; show (52 : Nat) < 79; decide)
      obtain rfl : v19 = (.bool true) := f19
      obtain ⟨v29, t29, f29⟩ := pre_get hpre 29 (by kernel_rfl) 62 rfl (by rw [hsz]; show (62 : Nat) < 79; decide)
      obtain rfl : v29 = (.bool true) := f29
      rw [if_pos (wanted_none rfl)]
      clear hpre hoth hdef hsz
      go_simp
      exact hK _ _ hJ (Below.refl _ _) rfl
    · intro a w1 hdef hsz hoth hJ hpre K hK
      obtain ⟨v30, t30, f30⟩ := pre_get hpre 30 (by kernel_rfl) 63 rfl (by rw [hsz]; show (63 : Nat) < 79; decide)
      obtain rfl : v30 = (.bool true) := f30
      rw [if_pos (wanted_none rfl)]
      clear hpre hoth hdef hsz
      go_simp
      exact hK _ _ hJ (Below.refl _ _) rfl
    · intro a w1 hdef hsz hoth hJ hpre K hK
      obtain ⟨v31, t31, f31⟩ := pre_get hpre 31 (by kernel_rfl) 64 rfl (by rw [hsz]; show (64 : Nat) < 79; decide)
      obtain rfl : v31 = (.bool true) := f31
      rw [if_pos (wanted_get 31 true rfl 64 rfl t31)]
      clear hpre hoth hdef hsz
      go_simp
      refine (of_nil _).mono ?_
      rintro r w2 ⟨rfl, rfl⟩
      exact hK _ _ hJ (Below.refl _ _) rfl
    · intro a w1 hdef hsz hoth hJ hpre K hK
      obtain ⟨v31, t31, f31⟩ := pre_get hpre 31 (by kernel_rfl) 64 rfl (by rw [hsz]; show (64 : Nat) < 79; decide)
      obtain rfl : v31 = (.bool true) := f31
      rw [if_pos (wanted_get 31 true rfl 64 rfl t31)]
      clear hpre hoth hdef hsz
      go_simp
      exact hK _ _ (al hJ _) (al (Below.refl _ w1) _) (strs_ok w1 _ _)
    · intro a w1 hdef hsz hoth hJ hpre K hK
      obtain ⟨v33, t33, f33⟩ := pre_get hpre 33 (by kernel_rfl) 66 rfl (by rw [hsz]; show (66 : Nat) < 79; decide)
      obtain ⟨b33, rfl, f33⟩ := f33
      obtain ⟨v31, t31, f31⟩ := pre_get hpre 31 (by kernel_rfl) 64 rfl (by rw [hsz]; show (64 : Nat) < 79; decide)
      obtain rfl : v31 = (.bool true) := f31
      rw [if_pos (wanted_get 31 true rfl 64 rfl t31)]
      clear hpre hoth hdef hsz
      go_simp
      refine (of_list2 _ _ { data := #[] } { data := #[] } _ e5.out (by decide) (by decide) (f33 0 (by simp)) (f33 1 (by simp))).mono ?_
      rintro r w2 ⟨rfl, rfl⟩
      exact hK _ _ hJ (Below.refl _ _) rfl
    · intro a w1 hdef hsz hoth hJ hpre K hK
      obtain ⟨v32, t32, f32⟩ := pre_get hpre 32 (by kernel_rfl) 65 rfl (by rw [hsz]; show (65 : Nat) < 79; decide)
      obtain rfl : v32 = (.int .u32 (crc [] : Nat)) := f32
      obtain ⟨v34, t34, f34⟩ := pre_get hpre 34 (by kernel_rfl) 67 rfl (by rw [hsz]; show (67 : Nat) < 79; decide)
      obtain rfl : v34 = (.int .u32 (crc [] : Nat)) := f34
      obtain ⟨v31, t31, f31⟩ := pre_get hpre 31 (by kernel_rfl) 64 rfl (by rw [hsz]; show (64 : Nat) < 79; decide)
      obtain rfl : v31 = (.bool true) := f31
      rw [if_pos (wanted_get 31 true rfl 64 rfl t31)]
      clear hpre hoth hdef hsz
      go_simp
      exact hK _ _ hJ (Below.refl _ _) rfl
    · intro a w1 hdef hsz hoth hJ hpre K hK
      obtain ⟨v31, t31, f31⟩ := pre_get hpre 31 (by kernel_rfl) 64 rfl (by rw [hsz]; show (64 : Nat) < 79; decide)
      obtain rfl : v31 = (.bool true) := f31
      obtain ⟨v35, t35, f35⟩ := pre_get hpre 35 (by kernel_rfl) 68 rfl (by rw [hsz]; show (68 : Nat) < 79; decide)
      obtain rfl : v35 = (.bool true) := f35
      rw [if_pos (wanted_none rfl)]
      clear hpre hoth hdef hsz
      go_simp
      exact hK _ _ hJ (Below.refl _ _) rfl
    · intro a w1 hdef hsz hoth hJ hpre K hK
      obtain ⟨v36, t36, f36⟩ := pre_get hpre 36 (by kernel_rfl) 69 rfl (by rw [hsz]; show (69 : Nat) < 79; decide)
      obtain rfl : v36 = (.bool true) := f36
      rw [if_pos (wanted_none rfl)]
      clear hpre hoth hdef hsz
      go_simp
      exact hK _ _ hJ (Below.refl _ _) rfl
    · intro a w1 hdef hsz hoth hJ hpre K hK
      obtain ⟨v37, t37, f37⟩ := pre_get hpre 37 (by kernel_rfl) 70 rfl (by rw [hsz]; show (70 : Nat) < 79; decide)
      obtain rfl : v37 = (.bool true) := f37
      have t0 := par_get hoth hsz 0 (by kernel_rfl) _ rfl
      rw [if_pos (wanted_get 37 true rfl 70 rfl t37)]
      clear hpre hoth hdef hsz
      go_simp
      exact hK _ _ hJ (Below.refl _ _) rfl
    · intro a w1 hdef hsz hoth hJ hpre K hK
      obtain ⟨v38, t38, f38⟩ := pre_get hpre 38 (by kernel_rfl) 71 rfl (by rw [hsz]; show (71 : Nat) < 79; decide)
      obtain rfl : v38 = (.string s) := f38
      obtain ⟨v37, t37, f37⟩ := pre_get hpre 37 (by kernel_rfl) 70 rfl (by rw [hsz]; show (70 : Nat) < 79; decide)
      obtain rfl : v37 = (.bool true) := f37
      rw [if_pos (wanted_get 37 true rfl 70 rfl t37)]
      clear hpre hoth hdef hsz
      go_simp
      refine (seal_len s _ hs).mono ?_
      rintro r w2 ⟨q, hq, rfl, b2⟩
      exact hK _ _ (bl hJ b2) b2 ⟨q, rfl, hq⟩
    · intro a w1 hdef hsz hoth hJ hpre K hK
      obtain ⟨v39, t39, f39⟩ := pre_get hpre 39 (by kernel_rfl) 72 rfl (by rw [hsz]; show (72 : Nat) < 79; decide)
      obtain ⟨q39, rfl, f39⟩ := f39
      obtain ⟨v37, t37, f37⟩ := pre_get hpre 37 (by kernel_rfl) 70 rfl (by rw [hsz]; show (70 : Nat) < 79; decide)
      obtain rfl : v37 = (.bool true) := f37
      rw [if_pos (wanted_get 37 true rfl 70 rfl t37)]
      clear hpre hoth hdef hsz
      go_simp
      exact hK _ _ hJ (Below.refl _ _) rfl
    · intro a w1 hdef hsz hoth hJ hpre K hK
      obtain ⟨v37, t37, f37⟩ := pre_get hpre 37 (by kernel_rfl) 70 rfl (by rw [hsz]; show (70 : Nat) < 79; decide)
      obtain rfl : v37 = (.bool true) := f37
      have t0 := par_get hoth hsz 0 (by kernel_rfl) _ rfl
      rw [if_pos (wanted_get 37 true rfl 70 rfl t37)]
      clear hpre hoth hdef hsz
      go_simp
      exact hK _ _ hJ (Below.refl _ _) rfl
    · intro a w1 hdef hsz hoth hJ hpre K hK
      obtain ⟨v41, t41, f41⟩ := pre_get hpre 41 (by kernel_rfl) 74 rfl (by rw [hsz]; show (74 : Nat) < 79; decide)
      obtain rfl : v41 = (.string s) := f41
      obtain ⟨v37, t37, f37⟩ := pre_get hpre 37 (by kernel_rfl) 70 rfl (by rw [hsz]; show (70 : Nat) < 79; decide)
      obtain rfl : v37 = (.bool true) := f37
      rw [if_pos (wanted_get 37 true rfl 70 rfl t37)]
      clear hpre hoth hdef hsz
      go_simp
      exact hK _ _ hJ (Below.refl _ _) rfl
    · intro a w1 hdef hsz hoth hJ hpre K hK
      obtain ⟨v42, t42, f42⟩ := pre_get hpre 42 (by kernel_rfl) 75 rfl (by rw [hsz]; show (75 : Nat) < 79; decide)
      obtain rfl : v42 = (.int .i64 (s.size : Int)) := f42
      obtain ⟨v37, t37, f37⟩ := pre_get hpre 37 (by kernel_rfl) 70 rfl (by rw [hsz]; show (70 : Nat) < 79; decide)
      obtain rfl : v37 = (.bool true) := f37
      rw [if_pos (wanted_get 37 true rfl 70 rfl t37)]
      clear hpre hoth hdef hsz
      go_simp
      exact hK _ _ hJ (Below.refl _ _) rfl
    · intro a w1 hdef hsz hoth hJ hpre K hK
      obtain ⟨v40, t40, f40⟩ := pre_get hpre 40 (by kernel_rfl) 73 rfl (by rw [hsz]; show (73 : Nat) < 79; decide)
      obtain rfl : v40 = (.int .i64 ((s.size : Int) + 4)) := f40
      obtain ⟨v43, t43, f43⟩ := pre_get hpre 43 (by kernel_rfl) 76 rfl (by rw [hsz]; show (76 : Nat) < 79; decide)
      obtain rfl : v43 = (.int .i64 ((s.size : Int) + 4)) := f43
      obtain ⟨v37, t37, f37⟩ := pre_get hpre 37 (by kernel_rfl) 70 rfl (by rw [hsz]; show (70 : Nat) < 79; decide)
      obtain rfl : v37 = (.bool true) := f37
      rw [if_pos (wanted_get 37 true rfl 70 rfl t37)]
      clear hpre hoth hdef hsz
      go_simp
      exact hK _ _ hJ (Below.refl _ _) rfl
    · intro a w1 hdef hsz hoth hJ hpre K hK
      obtain ⟨v37, t37, f37⟩ := pre_get hpre 37 (by kernel_rfl) 70 rfl (by rw [hsz]; show (70 : Nat) < 79; decide)
      obtain rfl : v37 = (.bool true) := f37
      obtain ⟨v44, t44, f44⟩ := pre_get hpre 44 (by kernel_rfl) 77 rfl (by rw [hsz]; show (77 : Nat) < 79; decide)
      obtain rfl : v44 = (.bool true) := f44
      rw [if_pos (wanted_none rfl)]
      clear hpre hoth hdef hsz
      go_simp
      exact hK _ _ hJ (Below.refl _ _) rfl
    · intro a w1 hdef hsz hoth hJ hpre K hK
      obtain ⟨v45, t45, f45⟩ := pre_get hpre 45 (by kernel_rfl) 78 rfl (by rw [hsz]; show (78 : Nat) < 79; decide)
      obtain rfl : v45 = (.bool true) := f45
      rw [if_pos (wanted_none rfl)]
      clear hpre hoth hdef hsz
      go_simp
      exact hK _ _ hJ (Below.refl _ _) rfl
  · intro a' w' hI
    have hJ := hI.hJ
    have h8 := hI.fact 46 _ rfl (by kernel_rfl)
    have hd : a'.defers = [] := hI.defers
    have h8' : a'.tmps.getD 8 undef = .bool true := h8
    clear hI h8
    go_wp2
    exact bodyPost_ret (v := .bool true) (by rw [results_tmp (t := 8) rfl, h8']) hd ⟨rfl, hJ⟩

theorem sumParts_calls (s t : ByteArray) (a b : Int) (w : World) (hs : s.size ≤ 140737488351232) (ht : t.size ≤ 140737488351232) (ha : (Lit.int .i64 a).wf = true) (hb : (Lit.int .i64 b).wf = true) :
    Calls Try.prog 10 #[.string s, .string t, .int .i64 a, .int .i64 b] w fun r w' => r = .returned (.bool true) ∧ Below w.heap.size w w' := by
  by_cases hg : 3000 < (s.size : Int) ∨ 3000 < (t.size : Int) ∨ a < 0 ∨ b < a ∨ (s.size : Int) < b
  · by_cases h1 : 3000 < (s.size : Int)
    · clear hg
      go_enter Try.func10, Try.ntmps10
      go_wp2_with fail
      refine (sumAlive_calls _).mono ?_
      rintro e w1 ⟨rfl, b1⟩
      go_wp2
      go_ret
      exact ⟨rfl, b1⟩
    by_cases h2 : 3000 < (t.size : Int)
    · clear hg
      go_enter Try.func10, Try.ntmps10
      go_wp2_with fail
      refine (sumAlive_calls _).mono ?_
      rintro e w1 ⟨rfl, b1⟩
      go_wp2
      go_ret
      exact ⟨rfl, b1⟩
    by_cases h3 : a < 0
    · clear hg
      go_enter Try.func10, Try.ntmps10
      go_wp2_with fail
      refine (sumAlive_calls _).mono ?_
      rintro e w1 ⟨rfl, b1⟩
      go_wp2
      go_ret
      exact ⟨rfl, b1⟩
    by_cases h4 : b < a
    · clear hg
      go_enter Try.func10, Try.ntmps10
      go_wp2_with fail
      refine (sumAlive_calls _).mono ?_
      rintro e w1 ⟨rfl, b1⟩
      go_wp2
      go_ret
      exact ⟨rfl, b1⟩
    have h5 : (s.size : Int) < b := by omega
    clear hg
    go_enter Try.func10, Try.ntmps10
    go_wp2_with fail
    refine (sumAlive_calls _).mono ?_
    rintro e w1 ⟨rfl, b1⟩
    go_wp2
    go_ret
    exact ⟨rfl, b1⟩
  · obtain ⟨i, rfl⟩ := Int.eq_ofNat_of_zero_le (show 0 ≤ a by omega)
    obtain ⟨j, rfl⟩ := Int.eq_ofNat_of_zero_le (show 0 ≤ b by omega)
    exact sumParts_main s t i j w (by omega) (by omega) (by omega) (by omega)

end Go.Proofs.Ytpbmclaglkcmoaa
