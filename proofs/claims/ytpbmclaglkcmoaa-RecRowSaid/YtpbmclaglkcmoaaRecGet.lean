import Derived.Test.YtpbmclaglkcmoaaRecPut3
namespace Go.Proofs.Ytpbmclaglkcmoaa
open Go.RowKit
set_option linter.unusedVariables false
set_option linter.unusedSimpArgs false

def secR (b : List UInt8) (k : Nat) : List UInt8 × Int := readB ((b.drop (64 * k)).take 64)
/-- The parts of k sectors, if each is right. -/
def getAll (b : List UInt8) (e l n : Int) : Nat → List UInt8 × Int
  | 0 => ([], 0)
  | k + 1 => if (getAll b e l n k).2 ≠ 0 then ([], (getAll b e l n k).2) else
      if (secR b k).2 ≠ 0 then ([], (secR b k).2) else
      if (secR b k).1.take 18 ≠ labelL e l k n then ([], 4) else ((getAll b e l n k).1 ++ (secR b k).1.drop 18, 0)
theorem getAll_up (b : List UInt8) (e l n : Int) (k : Nat) (h : (getAll b e l n k).2 ≠ 0) : ∀ m, (getAll b e l n (k + m)).2 = (getAll b e l n k).2
  | 0 => rfl
  | m + 1 => by
    have ih := getAll_up b e l n k h m
    show (getAll b e l n (k + m + 1)).2 = _
    rw [getAll, if_pos (by rw [ih]; exact h)]
    exact ih
structure GetR where
  e : Nat
  l : Nat
  im : List Img
  n : Nat
  err : Int
open Classical in
/-- Get. -/
noncomputable def getL (b : List UInt8) : GetR :=
  if (firstL b).err ≠ 0 then ⟨0, 0, [], 0, (firstL b).err⟩ else
  if b.length < 64 * sN (firstL b).n then ⟨0, 0, [], 0, 5⟩ else
  if (getAll b (firstL b).e (firstL b).l (firstL b).n (sN (firstL b).n)).2 ≠ 0 then ⟨0, 0, [], 0, (getAll b (firstL b).e (firstL b).l (firstL b).n (sN (firstL b).n)).2⟩ else
  if ValidR (firstL b).e (firstL b).l (imgsL (getAll b (firstL b).e (firstL b).l (firstL b).n (sN (firstL b).n)).1 (firstL b).n) ∧ recL (firstL b).e (firstL b).l (imgsL (getAll b (firstL b).e (firstL b).l (firstL b).n (sN (firstL b).n)).1 (firstL b).n) = b.take (64 * sN (firstL b).n)
  then ⟨(firstL b).e, (firstL b).l, imgsL (getAll b (firstL b).e (firstL b).l (firstL b).n (sN (firstL b).n)).1 (firstL b).n, sN (firstL b).n, 0⟩ else ⟨0, 0, [], 0, 4⟩

theorem firstL_ok (b : List UInt8) (h : (firstL b).err = 0) : (firstL b).e ≠ 0 ∧ (firstL b).l ≠ 0 ∧ (firstL b).e < 18446744073709551616 ∧ (firstL b).l < 18446744073709551616 ∧ 1 ≤ (firstL b).n ∧ (firstL b).n ≤ 60 ∧ 64 ≤ b.length := by
  have he := leV_lt (b.take 8)
  have hl := leV_lt ((b.drop 8).take 8)
  have he2 : (256 : Nat) ^ (b.take 8).length ≤ 256 ^ 8 := Nat.pow_le_pow_right (by decide) (by rw [List.length_take]; omega)
  have hl2 : (256 : Nat) ^ ((b.drop 8).take 8).length ≤ 256 ^ 8 := Nat.pow_le_pow_right (by decide) (by rw [List.length_take]; omega)
  revert h
  unfold firstL
  split
  · simp
  · split
    · simp
    · split
      · simp
      · rename_i h1 h2 h3
        intro _
        simp only [not_or, Classical.not_not] at h3
        obtain ⟨a1, a2, a3, a4⟩ := h3
        have hs : 1 ≤ leV ((b.drop 17).take 1) ∧ leV ((b.drop 17).take 1) ≤ 60 := by
          unfold secN at a4
          split at a4
          · simp at a4
          · omega
        refine ⟨a1, a2, Nat.lt_of_lt_of_le he he2, Nat.lt_of_lt_of_le hl hl2, hs.1, hs.2, by omega⟩

theorem Imgs.set {w : World} {A : Option Addr} {l : List Img} (h : Imgs w A l) (p : Addr) (v : Value) (hp : ∀ ad : Addr, A = some ad → p.block ≠ ad.block) : Imgs (w.setCell p v) A l := by
  intro j hj
  obtain ⟨b, o, hA, h0, h1, h2⟩ := h j hj
  have hne : p.block ≠ b := hp _ hA
  exact ⟨b, o, hA, (World.cell?_setCell_far w p ⟨b, _, none⟩ v hne).trans h0, (World.cell?_setCell_far w p ⟨b, _, none⟩ v hne).trans h1, (World.cell?_setCell_far w p ⟨b, _, none⟩ v hne).trans h2⟩
theorem imgs_ok (b : List UInt8) (e l : Nat) (n : Nat) (he : e < 18446744073709551616) (hl : l < 18446744073709551616) : RecOk e l (imgsL b n) := by
  refine ⟨Int.natCast_nonneg _, by omega, Int.natCast_nonneg _, by omega, ?_⟩
  intro x hx
  induction n with
  | zero => cases hx
  | succ k ih =>
    rw [imgsL, List.mem_append] at hx
    rcases hx with hx | hx
    · exact ih hx
    · rw [List.mem_singleton] at hx
      subst hx
      unfold ImgOk imgAt
      have h1 := leV_lt ((((b.drop (108 * k)).take 108).drop 4).take 8)
      have h2 : (256 : Nat) ^ ((((b.drop (108 * k)).take 108).drop 4).take 8).length ≤ 256 ^ 8 := Nat.pow_le_pow_right (by decide) (by rw [List.length_take]; omega)
      have h3 : (256 : Nat) ^ 8 = 18446744073709551616 := by decide
      simp only
      omega
theorem Imgs.nil (w : World) (A : Option Addr) : Imgs w A [] := fun j hj => absurd hj (Nat.not_lt_zero _)
theorem secN_s (n : Nat) (h1 : 1 ≤ n) (h2 : n ≤ 60) : secN (n : Int) = (sN n : Int) := secN_eq n h1 h2

set_option maxHeartbeats 8000000 in
set_option maxRecDepth 100000 in
theorem get_calls (s : ByteArray) (w : World) (hs : s.size ≤ 1000000) :
    Calls Try.prog 42 #[.string s] w fun r w' => ∃ (R : GetR) (A : Option Addr) (c : Nat), R = getL s.data.toList ∧ r = .returned (.tuple #[.agg #[.int .u64 R.e, .int .u64 R.l, .slice A R.im.length c], .int .i64 R.n, .int .i64 R.err]) ∧ R.im.length ≤ c ∧ Imgs w' A R.im ∧ Below w.heap.size w w' := by
  by_cases h1 : (firstL s.data.toList).err ≠ 0
  · have hd : getL s.data.toList = ⟨0, 0, [], 0, (firstL s.data.toList).err⟩ := by
      unfold getL
      rw [if_pos h1]
    have HD := Lib.hid hd
    have hb : ((firstL s.data.toList).err != 0) = true := bne_iff_ne.2 h1
    have HF := Lib.hid (fun W => first_calls s W hs)
    generalize firstL s.data.toList = F at HD hb HF
    clear hd h1
    go_enter Try.func42, Try.ntmps42
    go_wp2_with fail
    refine (HF.out _).mono ?_
    rintro r w1 ⟨R1, rfl, rfl, hb1⟩
    obtain ⟨hcell, hfroz⟩ := bcell hb1
    have hB1 : Below w.heap.size w w1 := (al (Below.refl _ w) (.cells #[.int .u64 0, .int .u64 0, .slice none 0 0] 64)).trans (hb1.mono (by simp))
    have g1 : w1.heap[w.heap.size]? = some (.cells #[.int .u64 0, .int .u64 0, .slice none 0 0] 64 (0, 0)) := (hb1.block _ (by simp)).trans (heap_alloc_new w _)
    have HB := Lib.hid hB1
    have hlt := lt_of_heap g1
    have c0 : w1.cell? ⟨w.heap.size, 0, none⟩ = some (.int .u64 0) := by rw [Lib.cell_of_heap g1]; rfl
    have c1 : w1.cell? ⟨w.heap.size, 1, none⟩ = some (.int .u64 0) := by rw [Lib.cell_of_heap g1]; rfl
    have c2 : w1.cell? ⟨w.heap.size, 2, none⟩ = some (.slice none 0 0) := by rw [Lib.cell_of_heap g1]; rfl
    have f0 : w1.frozen? ⟨w.heap.size, 0, none⟩ = false := Lib.frozen_of_heap g1 0
    have f1 : w1.frozen? ⟨w.heap.size, 1, none⟩ = false := Lib.frozen_of_heap g1 1
    have f2 : w1.frozen? ⟨w.heap.size, 2, none⟩ = false := Lib.frozen_of_heap g1 2
    clear hb1 hB1 g1 hcell hfroz
    go_wp2
    refine bodyPost_ret (v := .tuple #[.agg #[.int .u64 0, .int .u64 0, .slice none 0 0], .int .i64 0, .int .i64 R1.err]) (by simp [results, Try.results42, go_sem, c0, c1, c2, hlt]) rfl ⟨⟨0, 0, [], 0, R1.err⟩, none, 0, HD.out.symm, rfl, Nat.le_refl _, Imgs.nil _ _, ?_⟩
    have hB := HB.out
    repeat (first | exact hB | refine sc ?_ (Nat.le_refl _) _ _ | refine al ?_ _)
  have h1' : (firstL s.data.toList).err = 0 := Classical.not_not.1 h1
  obtain ⟨hE0, hL0, hE, hL, hn1, hn60, h64⟩ := firstL_ok _ h1'
  obtain ⟨RR, hRR⟩ : ∃ RR, RR = getL s.data.toList := ⟨_, rfl⟩
  have hD := hRR
  unfold getL at hD
  rw [if_neg h1] at hD
  have HF := Lib.hid (fun W => first_calls s W hs)
  generalize firstL s.data.toList = F at HF h1' hE0 hL0 hE hL hn1 hn60 hD
  obtain ⟨e, l, n, err⟩ := F
  simp only at h1' hE0 hL0 hE hL hn1 hn60 hD
  subst h1'
  rw [← hRR]
  have hsec := secN_s n hn1 hn60
  have hsn := sN_le n hn60
  have hsp := sN_pos n hn1
  obtain ⟨S, hS⟩ : ∃ S, S = sN n := ⟨_, rfl⟩
  rw [← hS] at hD hsec hsn hsp
  obtain ⟨T, hT⟩ : ∃ T : Nat, (S : Int) * 64 = (T : Int) := ⟨S * 64, by omega⟩
  have hT0 : T = 64 * S := by omega
  rw [toList_length] at hD
  have HSEC := Lib.hid hsec
  have HS := Lib.hid hS
  clear hRR hS hsec h1
  by_cases h2 : s.size < T
  · rw [if_pos (by omega)] at hD
    have HD := Lib.hid hD
    clear hD
    go_enter Try.func42, Try.ntmps42
    go_wp2_with fail
    refine (HF.out _).mono ?_
    rintro r w1 ⟨R1, rfl, rfl, hb1⟩
    have hB1 : Below w.heap.size w w1 := (al (Below.refl _ w) (.cells #[.int .u64 0, .int .u64 0, .slice none 0 0] 64)).trans (hb1.mono (by simp))
    have g1 : w1.heap[w.heap.size]? = some (.cells #[.int .u64 0, .int .u64 0, .slice none 0 0] 64 (0, 0)) := (hb1.block _ (by simp)).trans (heap_alloc_new w _)
    have HB := Lib.hid hB1
    have hlt := lt_of_heap g1
    have c0 : w1.cell? ⟨w.heap.size, 0, none⟩ = some (.int .u64 0) := by rw [Lib.cell_of_heap g1]; rfl
    have c1 : w1.cell? ⟨w.heap.size, 1, none⟩ = some (.int .u64 0) := by rw [Lib.cell_of_heap g1]; rfl
    have c2 : w1.cell? ⟨w.heap.size, 2, none⟩ = some (.slice none 0 0) := by rw [Lib.cell_of_heap g1]; rfl
    have f0 : w1.frozen? ⟨w.heap.size, 0, none⟩ = false := Lib.frozen_of_heap g1 0
    have f1 : w1.frozen? ⟨w.heap.size, 1, none⟩ = false := Lib.frozen_of_heap g1 1
    have f2 : w1.frozen? ⟨w.heap.size, 2, none⟩ = false := Lib.frozen_of_heap g1 2
    clear hb1 hB1 g1
    go_wp2_with fail
    refine (sectors_calls _ _ (by omega) (by omega)).mono ?_
    rintro r w2 ⟨rfl, rfl⟩
    rw [HSEC.out]
    go_wp2
    refine bodyPost_ret (v := .tuple #[.agg #[.int .u64 0, .int .u64 0, .slice none 0 0], .int .i64 0, .int .i64 5]) (by simp [results, Try.results42, go_sem, c0, c1, c2, hlt]) rfl ⟨_, none, 0, rfl, by rw [HD.out]; rfl, by rw [HD.out]; exact Nat.le_refl _, by rw [HD.out]; exact Imgs.nil _ _, ?_⟩
    have hB := HB.out
    repeat (first | exact hB | refine sc ?_ (Nat.le_refl _) _ _ | refine al ?_ _)
  rw [if_neg (by omega)] at hD
  have HD := Lib.hid hD
  clear hD
  go_enter Try.func42, Try.ntmps42
  go_wp2_with fail
  refine (HF.out _).mono ?_
  rintro r w1 ⟨R1, rfl, rfl, hb1⟩
  have hB1 : Below w.heap.size w w1 := (al (Below.refl _ w) (.cells #[.int .u64 0, .int .u64 0, .slice none 0 0] 64)).trans (hb1.mono (by simp))
  have g1 : w1.heap[w.heap.size]? = some (.cells #[.int .u64 0, .int .u64 0, .slice none 0 0] 64 (0, 0)) := (hb1.block _ (by simp)).trans (heap_alloc_new w _)
  have gx1 := heap_alloc_new w1 (.cells #[.int .u64 e, .int .u64 l, .slice none 0 0] 64)
  have gr1 := (Below.heap_alloc w1 (.cells #[.int .u64 e, .int .u64 l, .slice none 0 0] 64) _ (lt_of_heap g1)).trans g1
  have hB2 := al hB1 (.cells #[.int .u64 e, .int .u64 l, .slice none 0 0] 64)
  have hrX : w.heap.size < w1.heap.size := lt_of_heap g1
  go_wp2_with fail
  obtain ⟨X, hX⟩ : ∃ X, X = w1.heap.size := ⟨_, rfl⟩
  rw [← hX] at gx1 hrX ⊢
  generalize w1.alloc (.cells #[.int .u64 e, .int .u64 l, .slice none 0 0] 64) = W at gx1 gr1 hB2 ⊢
  have HB := Lib.hid hB2
  have GX := Lib.hid gx1
  have GR := Lib.hid gr1
  clear hb1 hB1 g1 hX gx1 gr1 hB2
  refine (sectors_calls _ _ (by omega) (by omega)).mono ?_
  rintro r w2 ⟨rfl, rfl⟩
  rw [HSEC.out]
  go_wp2_with fail
  go_loopw [9, 34] (fun s9 s34 wr => ∃ (k : Nat) (a : List UInt8), k ≤ S ∧ s34 = .int .i64 k ∧ s9 = .string (bstr a) ∧ a.length = 42 * k ∧ Hid (getAll s.data.toList e l n k = (a, 0)) ∧ Hid (Below W.heap.size W wr)) (fun _ s34 _ => S - (intOf s34).toNat)
  case atStart => exact ⟨0, [], Nat.zero_le _, rfl, rfl, rfl, rfl, Below.refl _ _⟩
  case round =>
    obtain ⟨k, a, hk, rfl, rfl, hal, HA, HK⟩ := hrel
    by_cases hlt : k < S
    · have hrW := lt_of_heap GR.out
      have hXW := lt_of_heap GX.out
      have gxr := (HK.out.block X hXW).trans GX.out
      have grr := (HK.out.block w.heap.size hrW).trans GR.out
      obtain ⟨lo, hlo⟩ : ∃ lo : Nat, (k : Int) * 64 = (lo : Int) := ⟨k * 64, by omega⟩
      obtain ⟨h1, hh1⟩ : ∃ h1 : Nat, ((k : Int) + 1) * 64 = (h1 : Int) := ⟨(k + 1) * 64, by omega⟩
      have hi0 : (0 : Int) ≤ (lo : Int) := Int.natCast_nonneg _
      have hi1 : (0 : Int) ≤ (h1 : Int) := Int.natCast_nonneg _
      have hi2 : (lo : Int) ≤ (h1 : Int) := by omega
      have hi3 : (h1 : Int) ≤ (s.size : Int) := by omega
      have hrd := fun W => read_calls (s.extract lo h1) W (by simp; omega)
      have hexl : (s.extract lo h1).data.toList = (s.data.toList.drop (64 * k)).take 64 := by
        rw [ByteArray.data_extract, Array.toList_extract, List.extract_eq_take_drop, show lo = 64 * k by omega, show h1 - 64 * k = 64 by omega]
      rw [hexl] at hrd
      have hsl : ((s.data.toList.drop (64 * k)).take 64).length = 64 := by rw [List.length_take, List.length_drop, toList_length]; omega
      have hq := readB_cases ((s.data.toList.drop (64 * k)).take 64) (by omega)
      have hnx : getAll s.data.toList e l n (k + 1) = if (getAll s.data.toList e l n k).2 ≠ 0 then ([], (getAll s.data.toList e l n k).2) else
        if (secR s.data.toList k).2 ≠ 0 then ([], (secR s.data.toList k).2) else
        if (secR s.data.toList k).1.take 18 ≠ labelL e l k n then ([], 4) else ((getAll s.data.toList e l n k).1 ++ (secR s.data.toList k).1.drop 18, 0) := rfl
      rw [HA.out, if_neg (by simp)] at hnx
      have hup := getAll_up s.data.toList e l n (k + 1)
      have hSk : ∃ m, S = k + 1 + m := ⟨S - (k + 1), by omega⟩
      unfold secR at hnx
      rcases hq with hq | hq
      · rw [hq] at hrd hnx
        rw [if_pos (by simp)] at hnx
        have hR : RR = ⟨0, 0, [], 0, 6⟩ := by
          obtain ⟨m, hm⟩ := hSk
          have h6 := hup (by rw [hnx]; simp) m
          rw [hnx] at h6
          have := HD.out
          rw [if_pos (by rw [hm, h6]; simp), hm, h6] at this
          exact this
        have HR := Lib.hid hR
        have HRD := Lib.hid hrd
        clear hR hrd hnx hup hSk hq hexl hsl
        go_wp2_with fail
        refine (HRD.out _).mono ?_
        rintro r w4 ⟨rfl, hb4⟩
        have g4 := (hb4.block _ (lt_of_heap grr)).trans grr
        have hlt4 := lt_of_heap g4
        have c0 : w4.cell? ⟨w.heap.size, 0, none⟩ = some (.int .u64 0) := by rw [Lib.cell_of_heap g4]; rfl
        have c1 : w4.cell? ⟨w.heap.size, 1, none⟩ = some (.int .u64 0) := by rw [Lib.cell_of_heap g4]; rfl
        have c2 : w4.cell? ⟨w.heap.size, 2, none⟩ = some (.slice none 0 0) := by rw [Lib.cell_of_heap g4]; rfl
        have f0 : w4.frozen? ⟨w.heap.size, 0, none⟩ = false := Lib.frozen_of_heap g4 0
        have f1 : w4.frozen? ⟨w.heap.size, 1, none⟩ = false := Lib.frozen_of_heap g4 1
        have f2 : w4.frozen? ⟨w.heap.size, 2, none⟩ = false := Lib.frozen_of_heap g4 2
        have B4 : Hid (Below w.heap.size w w4) := (HB.out.trans (HK.out.mono HB.out.size)).trans (hb4.mono (by have := HB.out.size; have := HK.out.size; omega))
        clear hb4 g4 gxr grr
        go_wp2
        refine bodyPost_ret (v := .tuple #[.agg #[.int .u64 0, .int .u64 0, .slice none 0 0], .int .i64 0, .int .i64 6]) (by simp [results, Try.results42, go_sem, c0, c1, c2, hlt4]) rfl ⟨_, none, 0, rfl, by rw [HR.out]; rfl, by rw [HR.out]; exact Nat.le_refl _, by rw [HR.out]; exact Imgs.nil _ _, ?_⟩
        have hB := B4.out
        repeat (first | exact hB | refine sc ?_ (Nat.le_refl _) _ _ | refine al ?_ _)
      · rw [hsl, show 64 - 4 = 60 from rfl, List.take_take, show min 60 64 = 60 from rfl] at hq
        have hql : ((s.data.toList.drop (64 * k)).take 60).length = 60 := by rw [List.length_take, List.length_drop, toList_length]; omega
        rw [hq] at hrd hnx
        rw [if_neg (by simp)] at hnx
        simp only at hnx hrd
        generalize (s.data.toList.drop (64 * k)).take 60 = q at hq hrd hnx hql
        have hqx : (bstr q).extract 0 18 = bstr (q.take 18) := bstr_eq _ _ (ext_take (bstr q) 18)
        have hqy : (bstr q).extract 18 60 = bstr (q.drop 18) := by
          have := ext_drop (bstr q) 18
          rw [show (bstr q).size = 60 from hql] at this
          exact bstr_eq _ _ this
        have hqs : (bstr q).size = 60 := hql
        have hdl : (bstr (q.drop 18)).size = 42 := by rw [bstr_size, List.length_drop, hql]
        have has : (bstr a).size = 42 * k := hal
        have HLB := Lib.hid (fun W => label_calls e l k n (.slice none 0 0) W rfl (by omega) (by omega) (by omega) (by omega) (by omega) (by omega) (by omega) (by omega) 0 none 0 rfl)
        have hfit : ¬ 9223372036854775807 < (bstr a).size + (bstr (q.drop 18)).size := by omega
        have x0 : wr.cell? ⟨X, 0, none⟩ = some (.int .u64 e) := by rw [Lib.cell_of_heap gxr]; rfl
        have x1 : wr.cell? ⟨X, 1, none⟩ = some (.int .u64 l) := by rw [Lib.cell_of_heap gxr]; rfl
        have x2 : wr.cell? ⟨X, 2, none⟩ = some (.slice none 0 0) := by rw [Lib.cell_of_heap gxr]; rfl
        have HRD := Lib.hid hrd
        have hXr := lt_of_heap gxr
        by_cases hlab : q.take 18 = labelL e l k n
        · rw [if_neg (by simp [hlab])] at hnx
          have HNX := Lib.hid hnx
          have HAL : Hid ((a ++ q.drop 18).length = 42 * (k + 1)) := by
            show _ = _
            rw [List.length_append, hal, List.length_drop, hql]
            omega
          have hst : bstr a ++ bstr (q.drop 18) = bstr (a ++ q.drop 18) := bapp2 _ _
          have HST := Lib.hid hst
          have hlq : ((bstr (q.take 18)).toList == (bstr (labelL e l k n)).toList) = true := by rw [hlab]; simp
          clear hst hrd hnx hup hSk hq hexl hsl hlab hal
          generalize bstr (labelL e l k n) = lb at HLB hlq
          generalize bstr (q.take 18) = qt at hqx hlq
          generalize bstr (q.drop 18) = qd at hqy hdl hfit HST
          go_wp2_with fail
          refine (HRD.out _).mono ?_
          rintro r w4 ⟨rfl, hb4⟩
          have d0 := (hb4.cell (p := ⟨X, 0, none⟩) hXr).trans x0
          have d1 := (hb4.cell (p := ⟨X, 1, none⟩) hXr).trans x1
          have d2 := (hb4.cell (p := ⟨X, 2, none⟩) hXr).trans x2
          have hX4 : X < w4.heap.size := Nat.lt_of_lt_of_le hXr hb4.size
          clear x0 x1 x2 gxr grr
          generalize bstr q = Q at hqx hqy hqs
          go_wp2_with fail
          go_region_held3 (fun w' => w'.cell? ⟨X, 0, none⟩ = some (.int .u64 e) ∧ w'.cell? ⟨X, 1, none⟩ = some (.int .u64 l) ∧ w'.cell? ⟨X, 2, none⟩ = some (.slice none 0 0)) (go_keep)
            (first
              | (go_at_call 67; (refine (HLB.out w4.drew).mono ?_); rintro r w5 ⟨rfl, hb5⟩;
                  have d0' := (hb5.cell (p := ⟨X, 0, none⟩) hX4).trans d0; have d1' := (hb5.cell (p := ⟨X, 1, none⟩) hX4).trans d1; have d2' := (hb5.cell (p := ⟨X, 2, none⟩) hX4).trans d2))
          have K5 : Hid (Below W.heap.size W w5) := HK.out.trans ((hb4.drew.trans (hb5.mono hb4.size)).mono HK.out.size)
          clear hb4 hb5 d0 d1 d2 d0' d1' d2'
          go_wp2
          go_roundw
          case rel => exact ⟨k + 1, _, by omega, by go_num, congrArg Value.string HST.out, HAL.out, HNX.out, K5.out⟩
          case measure => simp [intOf]; omega
        · rw [if_pos (by simp [hlab])] at hnx
          have hR : RR = ⟨0, 0, [], 0, 4⟩ := by
            obtain ⟨m, hm⟩ := hSk
            have h6 := hup (by rw [hnx]; simp) m
            rw [hnx] at h6
            have := HD.out
            rw [if_pos (by rw [hm, h6]; simp), hm, h6] at this
            exact this
          have HR := Lib.hid hR
          have hlq : ((bstr (q.take 18)).toList == (bstr (labelL e l k n)).toList) = false := by
            rw [ByteArray.toList_eq, ByteArray.toList_eq]
            exact beq_eq_false_iff_ne.2 hlab
          clear hR hrd hnx hup hSk hq hexl hsl hlab hal
          generalize bstr (labelL e l k n) = lb at HLB hlq
          generalize bstr (q.take 18) = qt at hqx hlq
          generalize bstr (q.drop 18) = qd at hqy hdl hfit
          go_wp2_with fail
          refine (HRD.out _).mono ?_
          rintro r w4 ⟨rfl, hb4⟩
          have d0 := (hb4.cell (p := ⟨X, 0, none⟩) hXr).trans x0
          have d1 := (hb4.cell (p := ⟨X, 1, none⟩) hXr).trans x1
          have d2 := (hb4.cell (p := ⟨X, 2, none⟩) hXr).trans x2
          have hX4 : X < w4.heap.size := Nat.lt_of_lt_of_le hXr hb4.size
          have GR4 := Lib.hid ((hb4.block _ (lt_of_heap grr)).trans grr)
          clear x0 x1 x2 gxr grr
          generalize bstr q = Q at hqx hqy hqs
          go_wp2_with fail
          go_region_held3 (fun w' => w'.cell? ⟨X, 0, none⟩ = some (.int .u64 e) ∧ w'.cell? ⟨X, 1, none⟩ = some (.int .u64 l) ∧ w'.cell? ⟨X, 2, none⟩ = some (.slice none 0 0)) (go_keep)
            (first
              | (go_at_call 67; (refine (HLB.out w4.drew).mono ?_); rintro r w5 ⟨rfl, hb5⟩;
                  have d0' := (hb5.cell (p := ⟨X, 0, none⟩) hX4).trans d0; have d1' := (hb5.cell (p := ⟨X, 1, none⟩) hX4).trans d1; have d2' := (hb5.cell (p := ⟨X, 2, none⟩) hX4).trans d2))
          have K5 : Hid (Below W.heap.size W w5) := HK.out.trans ((hb4.drew.trans (hb5.mono hb4.size)).mono HK.out.size)
          have g5 : w5.heap[w.heap.size]? = some (.cells #[.int .u64 0, .int .u64 0, .slice none 0 0] 64 (0, 0)) := (hb5.block _ (lt_of_heap GR4.out)).trans GR4.out
          have hlt5 := lt_of_heap g5
          have c0 : w5.cell? ⟨w.heap.size, 0, none⟩ = some (.int .u64 0) := by rw [Lib.cell_of_heap g5]; rfl
          have c1 : w5.cell? ⟨w.heap.size, 1, none⟩ = some (.int .u64 0) := by rw [Lib.cell_of_heap g5]; rfl
          have c2 : w5.cell? ⟨w.heap.size, 2, none⟩ = some (.slice none 0 0) := by rw [Lib.cell_of_heap g5]; rfl
          have f0 : w5.frozen? ⟨w.heap.size, 0, none⟩ = false := Lib.frozen_of_heap g5 0
          have f1 : w5.frozen? ⟨w.heap.size, 1, none⟩ = false := Lib.frozen_of_heap g5 1
          have f2 : w5.frozen? ⟨w.heap.size, 2, none⟩ = false := Lib.frozen_of_heap g5 2
          clear hb4 hb5 d0 d1 d2 d0' d1' d2' g5
          go_wp2
          refine bodyPost_ret (v := .tuple #[.agg #[.int .u64 0, .int .u64 0, .slice none 0 0], .int .i64 0, .int .i64 4]) (by simp [results, Try.results42, go_sem, c0, c1, c2, hlt5]) rfl ⟨_, none, 0, rfl, by rw [HR.out]; rfl, by rw [HR.out]; exact Nat.le_refl _, by rw [HR.out]; exact Imgs.nil _ _, ?_⟩
          have hB := HB.out.trans (K5.out.mono HB.out.size)
          repeat (first | exact hB | refine sc ?_ (Nat.le_refl _) _ _ | refine al ?_ _)
    · have hkS : k = S := by omega
      subst hkS
      have hrW := lt_of_heap GR.out
      have hXW := lt_of_heap GX.out
      have gxr := (HK.out.block X hXW).trans GX.out
      have grr := (HK.out.block w.heap.size hrW).trans GR.out
      have hXr := lt_of_heap gxr
      have hRR := HD.out
      rw [HA.out, if_neg (by simp)] at hRR
      have HRR := Lib.hid hRR
      clear hRR
      have hns : 108 * n ≤ (bstr a).size := by
        have h1 := HS.out
        rw [bstr_size, hal]
        unfold sN at h1
        omega
      have has : (bstr a).size = 42 * k := hal
      have HIM := Lib.hid (fun W => images_calls (bstr a) n W hn60 hns (by omega))
      clear hns
      go_wp2_with fail
      refine (HIM.out _).mono ?_
      rintro r w4 ⟨A, c, rfl, hc, hI, hA, hb4⟩
      rw [bstr_toList] at hI
      have gx4 := (hb4.block X hXr).trans gxr
      have gr4 := (hb4.block w.heap.size (lt_of_heap grr)).trans grr
      have hX4 : X < w4.heap.size := lt_of_heap gx4
      have x0 : w4.cell? ⟨X, 0, none⟩ = some (.int .u64 e) := by rw [Lib.cell_of_heap gx4]; rfl
      have x1 : w4.cell? ⟨X, 1, none⟩ = some (.int .u64 l) := by rw [Lib.cell_of_heap gx4]; rfl
      have x2 : w4.cell? ⟨X, 2, none⟩ = some (.slice none 0 0) := by rw [Lib.cell_of_heap gx4]; rfl
      have y2 : w4.frozen? ⟨X, 2, none⟩ = false := Lib.frozen_of_heap gx4 2
      have hXne : X ≠ w.heap.size := by omega
      go_wp2_with fail
      have hIX := hI.set ⟨X, 2, none⟩ (.slice A n c) (fun ad h => by have := hA ad h; show X ≠ _; omega)
      have hput := put_any e l A c (imgsL a n) _ hIX (by rw [imgsL_length]; omega) (by rw [imgsL_length]; exact hc) (imgs_ok a e l n hE hL)
      rw [imgsL_length] at hput
      refine hput.mono ?_
      rintro r w5 ⟨q, cc, rfl, hb5, hcc, hv, hnv⟩
      have gX0 : (w4.setCell ⟨X, 2, none⟩ (.slice A n c)).heap[X]? = some (.cells #[.int .u64 e, .int .u64 l, .slice A n c] 64 (0, 0)) := by
        simp [World.setCell, Array.getElem?_modify, gx4]
      have gR0 : (w4.setCell ⟨X, 2, none⟩ (.slice A n c)).heap[w.heap.size]? = some (.cells #[.int .u64 0, .int .u64 0, .slice none 0 0] 64 (0, 0)) := by
        simp [World.setCell, Array.getElem?_modify, gr4, hXne]
      have gx5 := (hb5.block X (lt_of_heap gX0)).trans gX0
      have gr5 := (hb5.block w.heap.size (lt_of_heap gR0)).trans gR0
      have hI5 := Lib.hid (hIX.below hb5)
      have HA5 : Hid (∀ ad : Addr, A = some ad → w.heap.size ≠ ad.block) := fun ad h => by have := hA ad h; omega
      have HB5 : Hid (Below w.heap.size w w5) := by
        have s1 := HB.out.size
        have s2 := HK.out.size
        have h1 := (HB.out.trans (HK.out.mono s1)).trans (hb4.mono (by omega))
        have h2 : Below w.heap.size w (w4.setCell ⟨X, 2, none⟩ (.slice A n c)) := sc h1 (by omega) _ _
        exact h2.trans (hb5.mono h2.size)
      have hlt5 := lt_of_heap gr5
      have c0 : w5.cell? ⟨w.heap.size, 0, none⟩ = some (.int .u64 0) := by rw [Lib.cell_of_heap gr5]; rfl
      have c1 : w5.cell? ⟨w.heap.size, 1, none⟩ = some (.int .u64 0) := by rw [Lib.cell_of_heap gr5]; rfl
      have c2 : w5.cell? ⟨w.heap.size, 2, none⟩ = some (.slice none 0 0) := by rw [Lib.cell_of_heap gr5]; rfl
      have f0 : w5.frozen? ⟨w.heap.size, 0, none⟩ = false := Lib.frozen_of_heap gr5 0
      have f1 : w5.frozen? ⟨w.heap.size, 1, none⟩ = false := Lib.frozen_of_heap gr5 1
      have f2 : w5.frozen? ⟨w.heap.size, 2, none⟩ = false := Lib.frozen_of_heap gr5 2
      have t0 : w5.cell? ⟨X, 0, none⟩ = some (.int .u64 e) := by rw [Lib.cell_of_heap gx5]; rfl
      have t1 : w5.cell? ⟨X, 1, none⟩ = some (.int .u64 l) := by rw [Lib.cell_of_heap gx5]; rfl
      have t2 : w5.cell? ⟨X, 2, none⟩ = some (.slice A n c) := by rw [Lib.cell_of_heap gx5]; rfl
      have hTs : (T : Int) ≤ (s.size : Int) := by omega
      have hT00 : (0 : Int) ≤ (T : Int) := Int.natCast_nonneg _
      have HCC := Lib.hid hcc
      have HV := Lib.hid hv
      have HC := Lib.hid hc
      clear hI hIX hput hb4 hb5 gx4 gr4 gX0 gR0 gx5 gr5 gxr grr hcc hv hnv hc x0 x1 x2 y2 hA
      by_cases hok : ValidR e l (imgsL a n) ∧ recL e l (imgsL a n) = s.data.toList.take (64 * k)
      · have hR : RR = ⟨e, l, imgsL a n, k, 0⟩ := by
          rw [HRR.out]
          exact if_pos hok
        have HR := Lib.hid hR
        have h0 : cc = 0 := HCC.out.2 hok.1
        have hq : (q.toList == (s.extract 0 (64 * k)).toList) = true := by
          rw [HV.out hok.1, ByteArray.toList_eq, ByteArray.toList_eq, ext_take]
          exact beq_iff_eq.2 hok.2
        subst h0
        clear hR hok
        go_wp2
        refine bodyPost_ret (v := .tuple #[.agg #[.int .u64 e, .int .u64 l, .slice A n c], .int .i64 k, .int .i64 0]) (by simp [results, Try.results42, go_sem, c0, c1, c2, hlt5]) rfl ⟨_, A, c, rfl, by rw [HR.out]; simp only [imgsL_length], by rw [HR.out]; simp only [imgsL_length]; exact HC.out, ?_, ?_⟩
        · rw [HR.out]
          exact ((hI5.out.set _ _ HA5.out).set _ _ HA5.out).set _ _ HA5.out
        · have hB := HB5.out
          repeat (first | exact hB | refine sc ?_ (Nat.le_refl _) _ _ | refine al ?_ _)
      · have hR : RR = ⟨0, 0, [], 0, 4⟩ := by
          rw [HRR.out]
          exact if_neg hok
        have HR := Lib.hid hR
        by_cases h0 : cc = 0
        · have hv := HCC.out.1 h0
          have hq : (q.toList == (s.extract 0 (64 * k)).toList) = false := by
            rw [HV.out hv, ByteArray.toList_eq, ByteArray.toList_eq, ext_take]
            exact beq_eq_false_iff_ne.2 (fun h => hok ⟨hv, h⟩)
          subst h0
          clear hR hok hv
          go_wp2
          refine bodyPost_ret (v := .tuple #[.agg #[.int .u64 0, .int .u64 0, .slice none 0 0], .int .i64 0, .int .i64 4]) (by simp [results, Try.results42, go_sem, c0, c1, c2, hlt5]) rfl ⟨_, none, 0, rfl, by rw [HR.out]; rfl, by rw [HR.out]; exact Nat.le_refl _, by rw [HR.out]; exact Imgs.nil _ _, ?_⟩
          have hB := HB5.out
          repeat (first | exact hB | refine sc ?_ (Nat.le_refl _) _ _ | refine al ?_ _)
        · have hc1 : (cc != 0) = true := bne_iff_ne.2 h0
          clear hR hok h0
          go_wp2
          refine bodyPost_ret (v := .tuple #[.agg #[.int .u64 0, .int .u64 0, .slice none 0 0], .int .i64 0, .int .i64 4]) (by simp [results, Try.results42, go_sem, c0, c1, c2, hlt5]) rfl ⟨_, none, 0, rfl, by rw [HR.out]; rfl, by rw [HR.out]; exact Nat.le_refl _, by rw [HR.out]; exact Imgs.nil _ _, ?_⟩
          have hB := HB5.out
          repeat (first | exact hB | refine sc ?_ (Nat.le_refl _) _ _ | refine al ?_ _)

end Go.Proofs.Ytpbmclaglkcmoaa
