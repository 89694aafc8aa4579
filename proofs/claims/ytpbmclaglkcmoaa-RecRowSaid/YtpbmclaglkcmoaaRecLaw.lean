import Derived.Test.YtpbmclaglkcmoaaRecGet
namespace Go.Proofs.Ytpbmclaglkcmoaa
open Go.RowKit
set_option linter.unusedVariables false
set_option linter.unusedSimpArgs false

theorem secsL_part (e l n : Int) (bd : List UInt8) (more : List UInt8) : ∀ (S k : Nat), k < S → ((secsL e l n bd S ++ more).drop (64 * k)).take 64 = secL e l n bd k
  | 0, k, h => absurd h (Nat.not_lt_zero _)
  | S + 1, k, h => by
    have hl := secsL_length e l n bd S
    have h64 := secL_length e l n bd k
    show ((secsL e l n bd S ++ secL e l n bd S ++ more).drop (64 * k)).take 64 = _
    by_cases hk : k < S
    · rw [List.append_assoc]
      rw [← secsL_part e l n bd (secL e l n bd S ++ more) S k hk]
    · have : k = S := by omega
      subst this
      rw [List.append_assoc, List.drop_left' hl, List.take_left' h64]

theorem sec_read (e l n : Int) (bd : List UInt8) (k : Nat) : readB (secL e l n bd k) = (labelL e l k n ++ partL bd k ++ List.replicate (42 - (partL bd k).length) 0, 0) := by
  obtain ⟨q, h1, h2, h3⟩ := secL_eq e l n bd k
  rw [h1, readB_stamp, h3]

/-- The parts of k sectors. -/
theorem getAll_put (e l n : Int) (bd more : List UInt8) (S : Nat) : ∀ k, k ≤ S → getAll (secsL e l n bd S ++ more) e l n k = (bd.take (42 * k) ++ List.replicate (42 * k - bd.length) 0, 0)
  | 0, _ => by simp [getAll]
  | k + 1, hk => by
    have ih := getAll_put e l n bd more S k (by omega)
    have hsec : secR (secsL e l n bd S ++ more) k = (labelL e l k n ++ partL bd k ++ List.replicate (42 - (partL bd k).length) 0, 0) := by
      unfold secR
      rw [secsL_part e l n bd more S k (by omega), sec_read]
    rw [getAll, ih, hsec, if_neg (by simp), if_neg (by simp)]
    have hlab := labelL_length e l k n
    rw [if_neg (by simp only [List.append_assoc, List.take_left' hlab]; simp)]
    simp only [List.append_assoc, List.drop_left' hlab]
    congr 1
    unfold partL
    by_cases h1 : 42 * k + 42 ≤ bd.length
    · have e0 : 42 * k - bd.length = 0 := by omega
      have e1 : 42 * (k + 1) - bd.length = 0 := by omega
      have e2 : ((bd.take (42 * k + 42)).drop (42 * k)).length = 42 := by rw [List.length_drop, List.length_take]; omega
      rw [e0, e1, e2]
      simp only [List.replicate_zero, List.nil_append, List.append_nil, Nat.sub_self]
      rw [show 42 * (k + 1) = 42 * k + 42 by omega]
      have h3 := List.take_append_drop (42 * k) (bd.take (42 * k + 42))
      rw [List.take_take, Nat.min_eq_left (by omega)] at h3
      exact h3
    · rw [List.take_of_length_le (by omega : bd.length ≤ 42 * k + 42), List.take_of_length_le (by omega : bd.length ≤ 42 * (k + 1))]
      by_cases h2 : 42 * k ≤ bd.length
      · rw [show 42 * k - bd.length = 0 by omega, List.replicate_zero, List.nil_append, ← List.append_assoc, List.take_append_drop, List.length_drop]
        congr 2
        omega
      · rw [List.take_of_length_le (by omega : bd.length ≤ 42 * k), List.drop_of_length_le (by omega)]
        simp only [List.nil_append, List.length_nil, Nat.sub_zero, List.replicate_append_replicate]
        congr 2
        omega

theorem imgAt_put (x : Img) (hb : 0 ≤ x.b) (hb2 : x.b < 4096) (hv : 0 ≤ x.v) (hv2 : x.v < 18446744073709551616) : imgAt (imgL x) = x := by
  have h4 := leB_length 4 x.b
  have h8 := leB_length 8 x.v
  have v4 := leV_leB 4 x.b hb (by omega)
  have v8 := leV_leB 8 x.v hv (by omega)
  unfold imgAt imgL
  rw [List.append_assoc, List.take_left' h4, List.drop_left' h4, List.take_left' h8]
  have e12 : (leB 4 x.b ++ (leB 8 x.v ++ x.d.data.toList)).drop 12 = x.d.data.toList := by
    rw [← List.append_assoc]
    exact List.drop_left' (by rw [List.length_append, h4, h8])
  rw [e12]
  cases x
  simp only at v4 v8 ⊢
  congr 1

theorem imgs_part (im : List Img) (hd : ∀ x ∈ im, x.d.size = 96) (more : List UInt8) (k : Nat) (h : k < im.length) : ((bodyL im ++ more).drop (108 * k)).take 108 = imgL im[k] := by
  have e1 : bodyL im = bodyL (im.take k) ++ (imgL im[k] ++ bodyL (im.drop (k + 1))) := by
    have h1 := bodyL_snoc im k h
    have h2 : bodyL im = bodyL (im.take (k + 1)) ++ bodyL (im.drop (k + 1)) := by
      unfold bodyL
      rw [← List.flatMap_append, List.take_append_drop]
    rw [h2, h1, List.append_assoc]
  have hl : (bodyL (im.take k)).length = 108 * k := by
    rw [bodyL_length _ (fun x hx => hd x (List.mem_of_mem_take hx)), List.length_take, Nat.min_eq_left (by omega)]
  have hi := imgL_length im[k] (hd _ (List.getElem_mem h))
  rw [e1, List.append_assoc, List.drop_left' hl, List.append_assoc, List.take_left' hi]

theorem imgsL_put (im : List Img) (hk : ∀ x ∈ im, 0 ≤ x.b ∧ x.b < 4096 ∧ 0 ≤ x.v ∧ x.v < 18446744073709551616 ∧ x.d.size = 96) (more : List UInt8) : ∀ k, k ≤ im.length → imgsL (bodyL im ++ more) k = im.take k
  | 0, _ => rfl
  | k + 1, h => by
    have hx := hk _ (List.getElem_mem (show k < im.length by omega))
    rw [imgsL, imgsL_put im hk more k (by omega), imgs_part im (fun x hx => (hk x hx).2.2.2.2) more k (by omega), imgAt_put _ hx.1 hx.2.1 hx.2.2.1 hx.2.2.2.1, List.take_succ_eq_append_getElem]

theorem firstL_put (e l : Nat) (n : Nat) (bd more : List UInt8) (S : Nat) (hS : 1 ≤ S) (he0 : e ≠ 0) (hl0 : l ≠ 0) (he : e < 18446744073709551616) (hl : l < 18446744073709551616) (hn : 1 ≤ n) (hn2 : n ≤ 60) : firstL (secsL e l n bd S ++ more) = ⟨e, l, n, 0⟩ := by
  have hlen : 64 ≤ (secsL e l n bd S ++ more).length := by rw [List.length_append, secsL_length]; omega
  have h0 := secsL_part e l n bd more S 0 hS
  rw [Nat.mul_zero, List.drop_zero] at h0
  have hr := sec_read e l n bd 0
  have h8e := leB_length 8 (e : Int)
  have h8l := leB_length 8 (l : Int)
  have h1p := leB_length 1 ((0 : Nat) : Int)
  have h1n := leB_length 1 (n : Int)
  obtain ⟨q, hq1, hq2, hq3⟩ := secL_eq e l n bd 0
  obtain ⟨tl, htl⟩ : ∃ tl, secsL e l n bd S ++ more = q ++ tl := by
    have h3 := List.take_append_drop 64 (secsL e l n bd S ++ more)
    rw [h0, hq1, List.append_assoc] at h3
    exact ⟨_, h3.symm⟩
  have hb : (secsL e l n bd S ++ more) = leB 8 e ++ (leB 8 l ++ (leB 1 ((0 : Nat) : Int) ++ (leB 1 n ++ (partL bd 0 ++ List.replicate (42 - (partL bd 0).length) 0 ++ tl)))) := by
    rw [htl, hq3]
    simp only [labelL, List.append_assoc]
  generalize secsL e l n bd S ++ more = b at hlen h0 hb
  have t0 : b.take 8 = leB 8 e := by rw [hb]; exact List.take_left' h8e
  have d0 : b.drop 8 = leB 8 l ++ (leB 1 ((0 : Nat) : Int) ++ (leB 1 n ++ (partL bd 0 ++ List.replicate (42 - (partL bd 0).length) 0 ++ tl))) := by
    conv => lhs; rw [hb]
    exact List.drop_left' h8e
  have t1 : (b.drop 8).take 8 = leB 8 l := by rw [d0]; exact List.take_left' h8l
  have d1 : b.drop 16 = leB 1 ((0 : Nat) : Int) ++ (leB 1 n ++ (partL bd 0 ++ List.replicate (42 - (partL bd 0).length) 0 ++ tl)) := by
    rw [show 16 = 8 + 8 from rfl, ← List.drop_drop, d0]
    exact List.drop_left' h8l
  have t2 : (b.drop 16).take 1 = leB 1 ((0 : Nat) : Int) := by rw [d1]; exact List.take_left' h1p
  have d2 : b.drop 17 = leB 1 n ++ (partL bd 0 ++ List.replicate (42 - (partL bd 0).length) 0 ++ tl) := by
    rw [show 17 = 16 + 1 from rfl, ← List.drop_drop, d1]
    exact List.drop_left' h1p
  have t3 : (b.drop 17).take 1 = leB 1 n := by rw [d2]; exact List.take_left' h1n
  have v0 := leV_leB 8 (e : Int) (Int.natCast_nonneg _) (by omega)
  have v1 := leV_leB 8 (l : Int) (Int.natCast_nonneg _) (by omega)
  have v2 := leV_leB 1 ((0 : Nat) : Int) (Int.natCast_nonneg _) (by omega)
  have v3 := leV_leB 1 (n : Int) (Int.natCast_nonneg _) (by omega)
  have w0 : leV (leB 8 (e : Int)) = e := by omega
  have w1 : leV (leB 8 (l : Int)) = l := by omega
  have w2 : leV (leB 1 ((0 : Nat) : Int)) = 0 := by omega
  have w3 : leV (leB 1 (n : Int)) = n := by omega
  have hs := secN_s n hn hn2
  have hp := sN_pos n hn
  unfold firstL
  rw [if_neg (by omega), h0, hr, if_neg (by simp), t0, t1, t2, t3, w0, w1, w2, w3, if_neg]
  intro h
  rcases h with h | h | h | h
  · exact he0 h
  · exact hl0 h
  · exact h rfl
  · rw [hs] at h
    omega

theorem getL_put (e l : Nat) (im : List Img) (more : List UInt8) (hv : ValidR e l im) (hk : RecOk e l im) : getL (recL e l im ++ more) = ⟨e, l, im, sN im.length, 0⟩ := by
  have hn60 : im.length ≤ 60 := hv.2.2.2.2
  have hn1 : 1 ≤ im.length := Nat.one_le_iff_ne_zero.2 hv.2.2.1
  have he0 : e ≠ 0 := fun h => hv.1 (by rw [h]; rfl)
  have hl0 : l ≠ 0 := fun h => hv.2.1 (by rw [h]; rfl)
  have hSp := sN_pos im.length hn1
  have hvi := valid_img hv hk
  have hbl := bodyL_length im (fun x hx => (hvi x hx).2.2.2.2)
  have hf : firstL (recL e l im ++ more) = ⟨e, l, im.length, 0⟩ := firstL_put e l im.length (bodyL im) more (sN im.length) hSp he0 hl0 (by have := hk.2.1; omega) (by have := hk.2.2.2.1; omega) hn1 hn60
  have hga : getAll (recL e l im ++ more) e l im.length (sN im.length) = ((bodyL im).take (42 * sN im.length) ++ List.replicate (42 * sN im.length - (bodyL im).length) 0, 0) := getAll_put e l im.length (bodyL im) more (sN im.length) (sN im.length) (Nat.le_refl _)
  have h42 : (bodyL im).length ≤ 42 * sN im.length := by rw [hbl]; unfold sN; omega
  rw [List.take_of_length_le h42] at hga
  have him : imgsL (bodyL im ++ List.replicate (42 * sN im.length - (bodyL im).length) 0) im.length = im := by
    rw [imgsL_put im hvi _ im.length (Nat.le_refl _), List.take_of_length_le (Nat.le_refl _)]
  have hlen : (recL e l im ++ more).length = 64 * sN im.length + more.length := by rw [List.length_append, recL_length]
  have htk : (recL e l im ++ more).take (64 * sN im.length) = recL e l im := List.take_left' (recL_length e l im)
  unfold getL
  rw [hf]
  simp only
  rw [hga]
  simp only
  rw [if_neg (by simp), hlen, if_neg (by omega), if_neg (by simp), him, htk, if_pos ⟨hv, rfl⟩]

/-- What Get tells as right: it is what Put lays. -/
theorem getL_ok (b : List UInt8) (h : (getL b).err = 0) : ValidR (getL b).e (getL b).l (getL b).im ∧ recL (getL b).e (getL b).l (getL b).im = b.take (64 * (getL b).n) ∧ (getL b).n = sN (getL b).im.length ∧ 64 * (getL b).n ≤ b.length := by
  revert h
  unfold getL
  split
  · intro h; contradiction
  · split
    · intro h; simp at h
    · split
      · intro h; contradiction
      · split
        · rename_i h1 h2 h3 h4
          intro _
          refine ⟨h4.1, h4.2, ?_, by simp only; omega⟩
          simp only [imgsL_length]
        · intro h; simp at h

/-- Cut by one byte. -/
theorem getL_cut (e l : Nat) (im : List Img) (hv : ValidR e l im) (hk : RecOk e l im) : (getL ((recL e l im).take ((recL e l im).length - 1))).err = 5 := by
  have hn60 : im.length ≤ 60 := hv.2.2.2.2
  have hn1 : 1 ≤ im.length := Nat.one_le_iff_ne_zero.2 hv.2.2.1
  have he0 : e ≠ 0 := fun h => hv.1 (by rw [h]; rfl)
  have hl0 : l ≠ 0 := fun h => hv.2.1 (by rw [h]; rfl)
  have hS3 : 3 ≤ sN im.length := by unfold sN; omega
  obtain ⟨m, hm⟩ : ∃ m, sN im.length = m + 1 := ⟨sN im.length - 1, by omega⟩
  have hlen := recL_length e l im
  have hcut : (recL e l im).take ((recL e l im).length - 1) = secsL e l im.length (bodyL im) m ++ (secL e l im.length (bodyL im) m).take 63 := by
    have hsl := secsL_length e l im.length (bodyL im) m
    have h64 := secL_length e l im.length (bodyL im) m
    rw [hlen, hm]
    have : recL e l im = secsL e l im.length (bodyL im) m ++ secL e l im.length (bodyL im) m := by
      unfold recL
      rw [hm]
      rfl
    rw [this, List.take_append, hsl, show 64 * (m + 1) - 1 - 64 * m = 63 by omega, List.take_of_length_le (by rw [hsl]; omega)]
  have hf : firstL ((recL e l im).take ((recL e l im).length - 1)) = ⟨e, l, im.length, 0⟩ := by
    rw [hcut]
    exact firstL_put e l im.length (bodyL im) _ m (by omega) he0 hl0 (by have := hk.2.1; omega) (by have := hk.2.2.2.1; omega) hn1 hn60
  unfold getL
  rw [hf]
  simp only
  rw [if_neg (by simp), if_pos]
  rw [List.length_take, hlen]
  omega

end Go.Proofs.Ytpbmclaglkcmoaa
