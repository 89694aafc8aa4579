import Derived.Test.YtpbmclaglkcmoaaRecBody
namespace Go.Proofs.Ytpbmclaglkcmoaa
open Go.RowKit
set_option linter.unusedVariables false
set_option linter.unusedSimpArgs false

/-- The part of a record's images that stands in sector k. -/
def partL (bd : List UInt8) (k : Nat) : List UInt8 := (bd.take (42 * k + 42)).drop (42 * k)
theorem partL_length (bd : List UInt8) (k : Nat) : (partL bd k).length ≤ 42 := by
  unfold partL
  rw [List.length_drop, List.length_take]
  omega
/-- Sector k of a record. -/
def secL (e l n : Int) (bd : List UInt8) (k : Nat) : List UInt8 := (stampB (labelL e l k n ++ partL bd k) 64).1
def secsL (e l n : Int) (bd : List UInt8) : Nat → List UInt8
  | 0 => []
  | k + 1 => secsL e l n bd k ++ secL e l n bd k
def sN (n : Nat) : Nat := (108 * n + 41) / 42
theorem secN_eq (n : Nat) (h1 : 1 ≤ n) (h2 : n ≤ 60) : secN (n : Int) = (sN n : Int) := by
  unfold secN sN
  rw [if_neg (by omega)]
  omega
theorem sN_le (n : Nat) (h2 : n ≤ 60) : sN n ≤ 155 := by unfold sN; omega
theorem sN_pos (n : Nat) (h2 : 1 ≤ n) : 1 ≤ sN n := by unfold sN; omega
theorem secL_eq (e l n : Int) (bd : List UInt8) (k : Nat) : ∃ q, secL e l n bd k = q ++ seal4 q ∧ q.length = 60 ∧ q = labelL e l k n ++ partL bd k ++ List.replicate (42 - (partL bd k).length) 0 := by
  have h := partL_length bd k
  have hl : (labelL e l k n ++ partL bd k).length = 18 + (partL bd k).length := by rw [List.length_append, labelL_length]
  refine ⟨_, ?_, ?_, rfl⟩
  · unfold secL
    rw [stamp64 _ (by omega), hl, show 60 - (18 + (partL bd k).length) = 42 - (partL bd k).length from by omega]
  · rw [List.length_append, hl, List.length_replicate]
    omega
theorem secL_length (e l n : Int) (bd : List UInt8) (k : Nat) : (secL e l n bd k).length = 64 := by
  obtain ⟨q, h1, h2, _⟩ := secL_eq e l n bd k
  rw [h1, List.length_append, h2, seal4_length]
theorem secsL_length (e l n : Int) (bd : List UInt8) : ∀ k, (secsL e l n bd k).length = 64 * k
  | 0 => rfl
  | k + 1 => by
    show (secsL e l n bd k ++ secL e l n bd k).length = _
    rw [List.length_append, secsL_length e l n bd k, secL_length]
    omega

/-- A record's bytes. -/
def recL (e l : Int) (im : List Img) : List UInt8 := secsL e l im.length (bodyL im) (sN im.length)

def ImgOk (x : Img) : Prop := 0 ≤ x.v ∧ x.v < 18446744073709551616
def RecOk (e l : Int) (im : List Img) : Prop := 0 ≤ e ∧ e < 18446744073709551616 ∧ 0 ≤ l ∧ l < 18446744073709551616 ∧ ∀ x ∈ im, ImgOk x

theorem valid_img {e l : Int} {im : List Img} (hv : ValidR e l im) (hk : RecOk e l im) : ∀ x ∈ im, 0 ≤ x.b ∧ x.b < 4096 ∧ 0 ≤ x.v ∧ x.v < 18446744073709551616 ∧ x.d.size = 96 := by
  intro x hx
  obtain ⟨i, hi, rfl⟩ := List.getElem_of_mem hx
  have h1 := (hv.2.2.2.1 i hi).1
  have h2 := hk.2.2.2.2 _ hx
  unfold rightB at h1
  have h3 := of_decide_eq_true h1
  exact ⟨h3.1, h3.2.1, h2.1, h2.2, h3.2.2⟩

theorem stamp_sector (e l n : Int) (bd : List UInt8) (k : Nat) (W : World) :
    Calls Try.prog 32 #[.string (bstr (labelL e l k n) ++ bstr (partL bd k)), .int .i64 64] W fun r w' => r = .returned (.tuple #[.string (bstr (secL e l n bd k)), .int .i64 0]) ∧ Below W.heap.size W w' := by
  have hl : (labelL e l k n ++ partL bd k).length ≤ 60 := by
    have := partL_length bd k
    rw [List.length_append, labelL_length]; omega
  have h := stamp_calls (bstr (labelL e l k n) ++ bstr (partL bd k)) 64 W (by rw [bapp2, bstr_size]; exact Nat.le_trans hl (by decide))
  have e1 : (bstr (labelL e l k n) ++ bstr (partL bd k)).data.toList = labelL e l k n ++ partL bd k := by rw [bapp2]; rfl
  have e2 : (stampB (labelL e l k n ++ partL bd k) 64).2 = 0 := by rw [stamp64 _ hl]
  rw [e1, e2] at h
  exact h

theorem extract_part (bd : List UInt8) (k lo hi : Nat) (hlo : lo = 42 * k) (hhi : hi = min (42 * k + 42) bd.length) : (bstr bd).extract lo hi = bstr (partL bd k) := by
  apply bstr_eq
  rw [ByteArray.data_extract, Array.toList_extract]
  show List.extract bd lo hi = _
  rw [List.extract_eq_take_drop, partL, List.drop_take, hlo, hhi]
  by_cases h : 42 * k + 42 ≤ bd.length
  · rw [Nat.min_eq_left h]
  · rw [Nat.min_eq_right (by omega)]
    rw [List.take_of_length_le (by rw [List.length_drop]; exact Nat.le_refl _), List.take_of_length_le (by rw [List.length_drop]; omega)]

set_option maxHeartbeats 4000000 in
set_option maxRecDepth 100000 in
theorem put_calls (e l : Int) (A : Option Addr) (c : Nat) (im : List Img) (w : World) (hI : Imgs w A im) (hc : im.length ≤ c) (hv : ValidR e l im) (hk : RecOk e l im) :
    Calls Try.prog 41 #[.agg #[.int .u64 e, .int .u64 l, .slice A im.length c]] w fun r w' => r = .returned (.tuple #[.string (bstr (recL e l im)), .int .i64 0]) ∧ Below w.heap.size w w' := by
  have hl60 : im.length ≤ 60 := hv.2.2.2.2
  have hl1 : 1 ≤ im.length := Nat.one_le_iff_ne_zero.2 hv.2.2.1
  have himg := Lib.hid (valid_img hv hk)
  have HV := Lib.hid hv
  have HKK := Lib.hid hk
  have HI := Lib.hid hI
  have hsec := secN_eq im.length hl1 hl60
  have hsn := sN_le im.length hl60
  have hbd := Lib.hid (bodyL_length im (fun x hx => (himg.out x hx).2.2.2.2))
  obtain ⟨S, hS⟩ : ∃ S, S = sN im.length := ⟨_, rfl⟩
  rw [← hS] at hsec hsn
  have HS := Lib.hid hS
  have HSEC := Lib.hid hsec
  clear hI hv hk hS hsec
  go_enter Try.func41, Try.ntmps41
  go_wp2_with fail
  refine (wrong_calls e l A c im _ (HI.out.below (al (Below.refl _ _) _)) (by omega) hc).mono ?_
  rintro r w1 ⟨cc, rfl, hcc, hb1⟩
  have hc0 : cc = 0 := hcc.2 HV.out
  subst hc0
  obtain ⟨hcell, hfroz⟩ := bcell hb1
  have hB1 : Below w.heap.size w w1 := (al (Below.refl _ _) _).trans (hb1.mono (by simp))
  have g1 : w1.heap[w.heap.size]? = some (.cells #[.int .u64 e, .int .u64 l, .slice A im.length c] 64 (0, 0)) := (hb1.block _ (by simp)).trans (heap_alloc_new w _)
  have c0 : w1.cell? ⟨w.heap.size, 0, none⟩ = some (.int .u64 e) := by rw [Lib.cell_of_heap g1]; rfl
  have c1 : w1.cell? ⟨w.heap.size, 1, none⟩ = some (.int .u64 l) := by rw [Lib.cell_of_heap g1]; rfl
  have c2 : w1.cell? ⟨w.heap.size, 2, none⟩ = some (.slice A im.length c) := by rw [Lib.cell_of_heap g1]; rfl
  have HB1 := Lib.hid hB1
  have G1 := Lib.hid g1
  have hlt1 := Lib.hid (lt_of_heap g1)
  clear hcell hfroz hcc hb1 hB1 g1
  go_wp2_with fail
  refine (body_calls A c im _ (HI.out.below HB1.out) hl60 himg.out).mono ?_
  rintro r w2 ⟨rfl, hb2⟩
  have hB2 := bl HB1.out hb2
  have g2 := (hb2.block _ hlt1.out).trans G1.out
  have d2 : w2.cell? ⟨w.heap.size, 2, none⟩ = some (.slice A im.length c) := by rw [Lib.cell_of_heap g2]; rfl
  have HB2 := Lib.hid hB2
  have G2 := Lib.hid g2
  clear hB2 g2 c0 c1 c2 hb2
  have hbds : (bstr (bodyL im)).size ≤ 6480 := by rw [bstr_size, hbd.out]; omega
  have hbe : (bstr (bodyL im)).size = 108 * im.length := hbd.out
  have HBE := Lib.hid hbe
  clear hbe
  obtain ⟨B, hB⟩ : ∃ B, B = bstr (bodyL im) := ⟨_, rfl⟩
  rw [← hB] at hbds HBE ⊢
  have HBB := Lib.hid hB
  clear hB
  go_wp2_with fail
  refine (sectors_calls _ _ (by omega) (by omega)).mono ?_
  rintro r w3 ⟨rfl, rfl⟩
  rw [HSEC.out]
  go_wp2_with fail
  go_loopw [6, 22] (fun s6 s22 wr => ∃ (k : Nat) (q : ByteArray), k ≤ S ∧ s22 = .int .i64 k ∧ s6 = .string q ∧ q.size ≤ 64 * k ∧ Hid (q = bstr (secsL e l im.length (bodyL im) k)) ∧ Hid (Below (w.heap.size + 1) w2 wr)) (fun _ s22 _ => S - (intOf s22).toNat)
  case atStart => exact ⟨0, _, Nat.zero_le _, rfl, rfl, Nat.le_refl _, rfl, Below.refl _ _⟩
  case round =>
    obtain ⟨k, q, hk, rfl, rfl, hqs, HQ, HK⟩ := hrel
    by_cases hlt : k < S
    · have gr := (HK.out.block _ (Nat.lt_succ_self _)).trans G2.out
      have r0 : wr.cell? ⟨w.heap.size, 0, none⟩ = some (.int .u64 e) := by rw [Lib.cell_of_heap gr]; rfl
      have r1 : wr.cell? ⟨w.heap.size, 1, none⟩ = some (.int .u64 l) := by rw [Lib.cell_of_heap gr]; rfl
      have r2 : wr.cell? ⟨w.heap.size, 2, none⟩ = some (.slice A im.length c) := by rw [Lib.cell_of_heap gr]; rfl
      have hltr := lt_of_heap gr
      obtain ⟨lo, hlo⟩ : ∃ lo : Nat, (k : Int) * 42 = (lo : Int) := ⟨k * 42, by omega⟩
      obtain ⟨h1, hh1⟩ : ∃ h1 : Nat, ((k : Int) + 1) * 42 = (h1 : Int) := ⟨(k + 1) * 42, by omega⟩
      obtain ⟨hi, hhi⟩ : ∃ hi : Nat, min (h1 : Int) (B.size : Int) = (hi : Int) := ⟨min h1 B.size, by omega⟩
      have hlohi : lo ≤ hi := by have := HBE.out; have := HS.out; unfold sN at this; omega
      have hhiB : hi ≤ B.size := by omega
      clear gr d2
      have hex : B.extract lo hi = bstr (partL (bodyL im) k) := by
        rw [HBB.out]
        refine extract_part _ k lo hi (by omega) ?_
        have e1 : B.size = (bodyL im).length := by rw [HBB.out]; rfl
        rw [← e1]
        omega
      have hpl : (bstr (partL (bodyL im) k)).size ≤ 42 := partL_length _ _
      have hll : (bstr (labelL e l k im.length)).size ≤ 18 := Nat.le_of_eq (labelL_length _ _ _ _)
      have HLB := Lib.hid (fun W => label_calls e l k im.length (.slice A im.length c) W rfl HKK.out.1 HKK.out.2.1 HKK.out.2.2.1 HKK.out.2.2.2.1 (by omega) (by omega) (by omega) (by omega) c A im.length rfl)
      have HST := Lib.hid (fun W => stamp_sector e l im.length (bodyL im) k W)
      have hsl : (bstr (secL e l im.length (bodyL im) k)).size = 64 := secL_length _ _ _ _ _
      have HSE : Hid (q ++ bstr (secL e l im.length (bodyL im) k) = bstr (secsL e l im.length (bodyL im) (k + 1))) := by
        show _ = _
        rw [bapp2, HQ.out]
        rfl
      generalize bstr (secL e l im.length (bodyL im) k) = sec at HST hsl HSE
      generalize bstr (partL (bodyL im) k) = pt at HST hpl hex
      generalize bstr (labelL e l k im.length) = lb at HST hll HLB
      have hz : (q ++ sec).size ≤ 64 * (k + 1) := by rw [ByteArray.size_append]; omega
      have hz2 : (lb ++ pt).size ≤ 60 := by rw [ByteArray.size_append]; omega
      have hfit : ¬ 9223372036854775807 < lb.size + pt.size := by omega
      have hw1 : IntKind.i64.wrap ((k : Int) + 1) = (k : Int) + 1 := by rw [IntKind.wrap_i64]; omega
      have hw2 : IntKind.i64.wrap (lo : Int) = (lo : Int) := by rw [IntKind.wrap_i64]; omega
      have hw3 : IntKind.i64.wrap (h1 : Int) = (h1 : Int) := by rw [IntKind.wrap_i64]; omega
      have hi0 : (0 : Int) ≤ (lo : Int) := Int.natCast_nonneg _
      have hi1 : (0 : Int) ≤ (hi : Int) := Int.natCast_nonneg _
      have hi2 : (lo : Int) ≤ (hi : Int) := by omega
      have hi3 : (hi : Int) ≤ (B.size : Int) := by omega
      go_wp2_with fail
      go_region_held3 (fun w' => w'.cell? ⟨w.heap.size, 0, none⟩ = some (.int .u64 e) ∧ w'.cell? ⟨w.heap.size, 1, none⟩ = some (.int .u64 l) ∧ w'.cell? ⟨w.heap.size, 2, none⟩ = some (.slice A im.length c)) (go_keep)
        (first
          | (go_at_call 67; (refine (HLB.out wr.drew).mono ?_); rintro r w4 ⟨rfl, k4⟩;
              have d0 := (k4.cell (p := ⟨w.heap.size, 0, none⟩) hltr).trans r0; have d1 := (k4.cell (p := ⟨w.heap.size, 1, none⟩) hltr).trans r1; have d2 := (k4.cell (p := ⟨w.heap.size, 2, none⟩) hltr).trans r2)
          | (go_at_call 32; (refine (HST.out w4).mono ?_); rintro r w5 ⟨rfl, k5⟩;
              have d0' := (k5.cell (p := ⟨w.heap.size, 0, none⟩) (Nat.lt_of_lt_of_le hltr k4.size)).trans d0; have d1' := (k5.cell (p := ⟨w.heap.size, 1, none⟩) (Nat.lt_of_lt_of_le hltr k4.size)).trans d1; have d2' := (k5.cell (p := ⟨w.heap.size, 2, none⟩) (Nat.lt_of_lt_of_le hltr k4.size)).trans d2))
      all_goals (have K6 := Lib.hid (HK.out.trans (((Below.refl _ wr).drew.trans (k4.mono hltr)).trans (k5.mono (Nat.le_trans hltr k4.size)))))
      all_goals (clear k4 k5 d0 d1 d2 d0' d1' d2' r0 r1 r2)
      all_goals (try go_wp2)
      all_goals (try refine ⟨⟨k + 1, q ++ sec, by omega, by go_num, rfl, hz, HSE.out, K6.out⟩, ?_⟩)
      all_goals (try (go_roundw))
      all_goals (try exact ⟨k + 1, q ++ sec, by omega, by go_num, rfl, hz, HSE.out, K6.out⟩)
      all_goals (simp [intOf]; omega)
    · have hkS : k = S := by omega
      have HKS := Lib.hid hkS
      clear hkS
      go_wp2
      go_ret2
      refine ⟨?_, HB2.out.trans (HK.out.mono (Nat.le_succ _))⟩
      have e1 : q = bstr (recL e l im) := by rw [HQ.out, HKS.out, HS.out]; rfl
      rw [← e1]
      rfl

end Go.Proofs.Ytpbmclaglkcmoaa
