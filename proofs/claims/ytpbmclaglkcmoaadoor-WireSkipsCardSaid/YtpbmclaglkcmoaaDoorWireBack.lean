import Derived.Test.YtpbmclaglkcmoaaDoorWireCounts
namespace Go.Proofs.YtpbmclaglkcmoaaDoor
open Go.RowKit
set_option linter.unusedVariables false
set_option linter.unusedSimpArgs false

theorem rtext_le (t rest : List UInt8) (room : Int) (h0 : 0 ≤ room) (h1 : room ≤ 60000) (ht : (t.length : Int) ≤ room) : rtextR (leB 2 t.length ++ t ++ rest) 0 room = (t, rest, 0) := by
  have hr : wrongR room = 0 := by unfold wrongR; rw [if_neg (by omega)]
  have hn := rnum_le 2 t.length (t ++ rest) (by decide) (by decide) (by omega) (by omega)
  have hc : countR (leB 2 t.length ++ t ++ rest) 0 room = (t.length, t ++ rest, 0) := by
    unfold countR
    rw [List.append_assoc]
    have hn' : rnumR (leB 2 t.length ++ (t ++ rest)) 0 2 = (t.length, t ++ rest, 0) := hn
    rw [hn', if_neg (fun h => by have := h.2; simp only at this; omega)]
  unfold rtextR
  rw [if_neg (by simpa using hr), hc]
  simp [takeR]

theorem flag_le (f : Bool) (rest : List UInt8) : flagR (leB 1 (if f then 1 else 0) ++ rest) 0 = (f, rest, 0) := by
  have hn := rnum_le 1 (if f then 1 else 0) rest (by decide) (by decide) (by cases f <;> decide) (by cases f <;> decide)
  unfold flagR
  have hn' : rnumR (leB 1 (if f then 1 else 0) ++ rest) 0 1 = ((if f then 1 else 0 : Int).toNat, rest, 0) := hn
  rw [hn']
  cases f <;> rfl

theorem wrap64_u64 (i : Int) (h0 : -9223372036854775808 ≤ i) (h1 : i ≤ 9223372036854775807) : wrap64 (IntKind.u64.wrap i) = i := by
  unfold wrap64
  simp only [IntKind.wrap, IntKind.bits, IntKind.signed]
  simp
  omega

theorem allZ_rep (n : Nat) : allZ (List.replicate n 0) = true := by simp [allZ]

/-- What the writer's calls leave. -/
def backW (v n i : Int) (s : ByteArray) (f : Bool) (pad : Int) : List UInt8 × Int :=
  padW (flagW (textW (intW (numW ([], 0) v n) i) s.data.toList 1000) f) pad

def fitsW (v n : Int) : Prop := wrongN v n = 0

def bodyB (v n i : Int) (s : ByteArray) (f : Bool) : List UInt8 := leB n.toNat v ++ leB 8 (IntKind.u64.wrap i) ++ (leB 2 s.size ++ s.data.toList) ++ leB 1 (if f then 1 else 0)

theorem body_len (v n i : Int) (s : ByteArray) (f : Bool) : (bodyB v n i s f).length = n.toNat + s.size + 11 := by
  simp only [bodyB, List.length_append, leB_length, toList_length]
  omega

theorem back_steps (v n i : Int) (s : ByteArray) (f : Bool) (hw : wrongN v n = 0) (hs : s.size ≤ 1000) :
    numW ([], 0) v n = (leB n.toNat v, 0) ∧ intW (leB n.toNat v, 0) i = (leB n.toNat v ++ leB 8 (IntKind.u64.wrap i), 0) ∧
    textW (leB n.toNat v ++ leB 8 (IntKind.u64.wrap i), 0) s.data.toList 1000 = (leB n.toNat v ++ leB 8 (IntKind.u64.wrap i) ++ (leB 2 s.size ++ s.data.toList), 0) ∧
    flagW (leB n.toNat v ++ leB 8 (IntKind.u64.wrap i) ++ (leB 2 s.size ++ s.data.toList), 0) f = (bodyB v n i s f, 0) := by
  refine ⟨?_, ?_, ?_, ?_⟩
  · rw [numW_ok [] v n hw]
    rfl
  · unfold intW
    rw [numW_ok _ _ 8 (wrong8 _)]
    rfl
  · unfold textW
    rw [if_pos (show failErr 0 (wrongR 1000) = 0 from rfl), if_neg (by rw [toList_length]; omega), toList_length, List.append_assoc]
  · unfold flagW
    rw [numW_ok _ _ 1 (wrong1 _ (by cases f <;> decide) (by cases f <;> decide))]
    rfl

/-- The writer's chain, as one: from state to state. -/
structure Chain (v n i : Int) (s : ByteArray) (f : Bool) (pad : Int) (q : List UInt8 × Int) : Prop where
  ex : ∃ a b c d : List UInt8 × Int, numW ([], 0) v n = a ∧ intW a i = b ∧ textW b s.data.toList 1000 = c ∧ flagW c f = d ∧ padW d pad = q ∧ a.1.length ≤ 100 ∧ b.1.length ≤ 100 ∧ c.1.length ≤ 2000

theorem chain_bad (v n i : Int) (s : ByteArray) (f : Bool) (pad : Int) (h : wrongN v n = 1) : Chain v n i s f pad ([], 1) := by
  refine ⟨([], 1), ([], 1), ([], 1), ([], 1), ?_, ?_, ?_, ?_, ?_, by decide, by decide, by decide⟩
  · unfold numW
    rw [h]
    rfl
  · rfl
  · rfl
  · rfl
  · rfl

theorem chain_good (v n i : Int) (s : ByteArray) (f : Bool) (pad : Int) (h : wrongN v n = 0) (hn : n ≤ 8) (hs : s.size ≤ 1000) : Chain v n i s f pad (padW (bodyB v n i s f, 0) pad) := by
  obtain ⟨h1, h2, h3, h4⟩ := back_steps v n i s f h hs
  refine ⟨_, _, _, _, h1, h2, h3, h4, rfl, ?_, ?_, ?_⟩
  · simp only [leB_length]; omega
  · simp only [List.length_append, leB_length]; omega
  · simp only [List.length_append, leB_length, toList_length]; omega

theorem fits_n (v n : Int) (h1 : 1 ≤ n) (h8 : n < 8) (hv : 0 ≤ v) : v < IntKind.u64.wrap (2 ^ (8 * n).toNat) ↔ wrongN v n = 0 := by
  have h : n = 1 ∨ n = 2 ∨ n = 3 ∨ n = 4 ∨ n = 5 ∨ n = 6 ∨ n = 7 := by omega
  rcases h with rfl | rfl | rfl | rfl | rfl | rfl | rfl
  · have e : IntKind.u64.wrap (2 ^ (8 * (1 : Int)).toNat) = 256 := by decide
    have e2 : (2 : Int) ^ (8 * (1 : Int).toNat) = 256 := rfl
    rw [e, wrongN, if_neg (by omega), e2]
    simp
    omega
  · have e : IntKind.u64.wrap (2 ^ (8 * (2 : Int)).toNat) = 65536 := by decide
    have e2 : (2 : Int) ^ (8 * (2 : Int).toNat) = 65536 := rfl
    rw [e, wrongN, if_neg (by omega), e2]
    simp
    omega
  · have e : IntKind.u64.wrap (2 ^ (8 * (3 : Int)).toNat) = 16777216 := by decide
    have e2 : (2 : Int) ^ (8 * (3 : Int).toNat) = 16777216 := rfl
    rw [e, wrongN, if_neg (by omega), e2]
    simp
    omega
  · have e : IntKind.u64.wrap (2 ^ (8 * (4 : Int)).toNat) = 4294967296 := by decide
    have e2 : (2 : Int) ^ (8 * (4 : Int).toNat) = 4294967296 := rfl
    rw [e, wrongN, if_neg (by omega), e2]
    simp
    omega
  · have e : IntKind.u64.wrap (2 ^ (8 * (5 : Int)).toNat) = 1099511627776 := by decide
    have e2 : (2 : Int) ^ (8 * (5 : Int).toNat) = 1099511627776 := rfl
    rw [e, wrongN, if_neg (by omega), e2]
    simp
    omega
  · have e : IntKind.u64.wrap (2 ^ (8 * (6 : Int)).toNat) = 281474976710656 := by decide
    have e2 : (2 : Int) ^ (8 * (6 : Int).toNat) = 281474976710656 := rfl
    rw [e, wrongN, if_neg (by omega), e2]
    simp
    omega
  · have e : IntKind.u64.wrap (2 ^ (8 * (7 : Int)).toNat) = 72057594037927936 := by decide
    have e2 : (2 : Int) ^ (8 * (7 : Int).toNat) = 72057594037927936 := rfl
    rw [e, wrongN, if_neg (by omega), e2]
    simp
    omega

theorem wrongN_01 (v n : Int) (h : wrongN v n ≠ 0) : wrongN v n = 1 := by
  unfold wrongN at h ⊢
  split
  · rfl
  · rename_i h1
    rw [if_neg h1] at h
    split
    · rfl
    · rename_i h2
      rw [if_neg h2] at h
      exact absurd rfl h

/-- The three ways. -/
def Ways (v n i : Int) (s : ByteArray) (f : Bool) (pad : Int) (q : List UInt8 × Int) : Prop :=
  ((n == 8) = false ∧ ¬ v < IntKind.u64.wrap (2 ^ (8 * n).toNat) ∧ q = ([], 1)) ∨
  (((n == 8) = true ∨ ((n == 8) = false ∧ v < IntKind.u64.wrap (2 ^ (8 * n).toNat))) ∧
    (q = (bodyB v n i s f, 2) ∨ (∃ z : Nat, q = (bodyB v n i s f ++ List.replicate z 0, 0) ∧ (n.toNat + s.size + 11 + z : Int) = pad) ∧ wrongN v n = 0))

theorem ways (v n i : Int) (s : ByteArray) (f : Bool) (pad : Int) (hv : 0 ≤ v) (h1 : 1 ≤ n) (h8 : n ≤ 8) (hp : pad ≤ 3000) (hs : s.size ≤ 1000) : ∃ q, Chain v n i s f pad q ∧ Ways v n i s f pad q := by
  by_cases hw : wrongN v n = 0
  · refine ⟨_, chain_good v n i s f pad hw h8 hs, .inr ⟨?_, ?_⟩⟩
    · by_cases h : n = 8
      · exact .inl (beq_iff_eq.2 h)
      · exact .inr ⟨beq_eq_false_iff_ne.2 h, (fits_n v n h1 (by omega) hv).2 hw⟩
    · have hl := body_len v n i s f
      unfold padW padE
      by_cases hc : pad < ((bodyB v n i s f).length : Int)
      · left
        simp only
        rw [if_neg (by omega : ¬ (60000 : Int) < pad), if_pos hc]
        rfl
      · right
        refine ⟨⟨pad.toNat - (bodyB v n i s f).length, ?_, ?_⟩, hw⟩
        · simp only
          rw [if_neg (by omega : ¬ (60000 : Int) < pad), if_neg hc]
          rfl
        · omega
  · have hw1 := wrongN_01 v n hw
    refine ⟨_, chain_bad v n i s f pad hw1, .inl ⟨?_, ?_, rfl⟩⟩
    · refine beq_eq_false_iff_ne.2 (fun h => hw ?_)
      subst h
      exact wrong8 v
    · by_cases h : n = 8
      · subst h
        exact absurd (wrong8 v) hw
      · exact fun h' => hw ((fits_n v n h1 (by omega) hv).1 h')

set_option maxHeartbeats 4000000 in
set_option maxRecDepth 100000 in
theorem wireBack_main (v n i : Int) (s : ByteArray) (f : Bool) (pad : Int) (w : World) (hv0 : 0 ≤ v) (hv1 : v ≤ 18446744073709551615) (hi0 : -9223372036854775808 ≤ i) (hi1 : i ≤ 9223372036854775807) (hs : s.size ≤ 1000) (hn1 : 1 ≤ n) (hn8 : n ≤ 8) (hp0 : 0 ≤ pad) (hp1 : pad ≤ 3000) :
    Calls Tryd.prog 10 #[.int .u64 v, .int .i64 n, .int .i64 i, .string s, .bool f, .int .i64 pad] w fun r w' => r = .returned (.bool true) ∧ Below w.heap.size w w' := by
  obtain ⟨q, hc, hways⟩ := ways v n i s f pad hv0 hn1 hn8 hp1 hs
  have HWAYS := Lib.hid hways
  obtain ⟨hc⟩ := hc
  clear hways
  obtain ⟨a, b, c, d, ha, hb, hcc, hd, hq, la, lb, lc⟩ := hc
  have HA := Lib.hid ha
  have HB := Lib.hid hb
  have HC := Lib.hid hcc
  have HD := Lib.hid hd
  have HQ := Lib.hid hq
  clear ha hb hcc hd hq
  go_enter Tryd.func10, Tryd.ntmps10
  go_wp2_with fail
  refine (wr_at (Nat.le_of_lt (by simp)) (num_calls (fun k => w.heap.size ≤ k) w.heap.size ([], 0) v n _ (Wr.fresh w) (by omega) (by omega) (by decide))).mono ?_
  rw [HA.out]
  rintro e w1 ⟨rfl, h1, b1⟩
  have H1 := Lib.hid h1
  have B1 := Lib.hid (al (Below.refl _ w) _ |>.trans b1)
  clear h1 b1
  go_wp2_with fail
  refine (wr_at B1.out.size (int_calls (fun k => w.heap.size ≤ k) w.heap.size a i _ H1.out (by omega))).mono ?_
  rw [HB.out]
  rintro e w2 ⟨rfl, h2, b2⟩
  have H2 := Lib.hid h2
  have B2 := Lib.hid (B1.out.trans b2)
  clear h2 b2 H1
  go_wp2_with fail
  refine (wr_at B2.out.size (text_calls (fun k => w.heap.size ≤ k) w.heap.size b s 1000 _ H2.out (by omega))).mono ?_
  rw [HC.out]
  rintro e w3 ⟨rfl, h3, b3⟩
  have H3 := Lib.hid h3
  have B3 := Lib.hid (B2.out.trans b3)
  clear h3 b3 H2
  go_wp2_with fail
  refine (wr_at B3.out.size (flag_calls (fun k => w.heap.size ≤ k) w.heap.size c f _ H3.out (by omega))).mono ?_
  rw [HD.out]
  rintro e w4 ⟨rfl, h4, b4⟩
  have H4 := Lib.hid h4
  have B4 := Lib.hid (B3.out.trans b4)
  clear h4 b4 H3
  go_wp2_with fail
  refine (wr_at B4.out.size (pad_calls (fun k => w.heap.size ≤ k) w.heap.size d pad _ H4.out)).mono ?_
  rw [HQ.out]
  rintro e w5 ⟨rfl, h5, b5⟩
  have H5 := Lib.hid h5
  have B5 := Lib.hid (B4.out.trans b5)
  clear h5 b5 H4
  go_wp2_with fail
  refine (bytes_calls (fun k => w.heap.size ≤ k) w.heap.size q _ H5.out).mono ?_
  rintro e w6 ⟨rfl, m6, rfl⟩
  have B6 := Lib.hid (B5.out.trans (dr w5 m6 w.heap.size B5.out.size))
  have hwr := wrap64_u64 i hi0 hi1
  have HWR := Lib.hid hwr
  clear hwr
  clear HA HB HC HD HQ
  rcases HWAYS.out with ⟨h8, hvw, hq⟩ | ⟨hfit, hq | ⟨⟨z, hq, hz⟩, hw⟩⟩
  · subst hq
    have hby : bytesW ([], 1) = { data := #[] } := rfl
    rw [hby]
    clear hby H5 HWAYS
    go_wp2_with fail
    refine (wireAlive_calls _).mono ?_
    rintro e w7 ⟨rfl, b7⟩
    go_wp2
    go_ret
    exact ⟨rfl, B6.out.trans (b7.mono B6.out.size)⟩
  · subst hq
    have hby : bytesW (bodyB v n i s f, 2) = { data := #[] } := rfl
    rw [hby]
    clear hby H5 HWAYS
    rcases hfit with h8 | ⟨h8, hvw⟩
    all_goals
      go_wp2_with fail
      refine (wireAlive_calls _).mono ?_
      rintro e w7 ⟨rfl, b7⟩
      go_wp2
      go_ret
      exact ⟨rfl, B6.out.trans (b7.mono B6.out.size)⟩
  · subst hq
    have hby : bytesW (bodyB v n i s f ++ List.replicate z 0, 0) = bstr (bodyB v n i s f ++ List.replicate z 0) := rfl
    rw [hby]
    have hl := body_len v n i s f
    have hsz : (bstr (bodyB v n i s f ++ List.replicate z 0)).size = pad.toNat := by rw [bstr_size, List.length_append, List.length_replicate]; omega
    have HSZ := Lib.hid hsz
    have HTL : Hid ((bstr (bodyB v n i s f ++ List.replicate z 0)).data.toList = leB n.toNat v ++ (leB 8 (IntKind.u64.wrap i) ++ (leB 2 s.size ++ s.data.toList ++ (leB 1 (if f then 1 else 0) ++ List.replicate z 0)))) := by
      show _ = _
      rw [bstr_toList, bodyB]
      simp only [List.append_assoc]
    generalize bstr (bodyB v n i s f ++ List.replicate z 0) = bb at HSZ HTL hsz
    have hbs : bb.size ≤ 3000 := by omega
    have hz3 : z ≤ 3000 := by omega
    have hbs2 : pad ≤ (bb.size : Int) := by omega
    clear hby H5 HWAYS hz hl hsz
    have hv256 : v < 256 ^ n.toNat := by
      have h3 : n = 1 ∨ n = 2 ∨ n = 3 ∨ n = 4 ∨ n = 5 ∨ n = 6 ∨ n = 7 ∨ n = 8 := by omega
      unfold wrongN at hw
      rcases h3 with rfl | rfl | rfl | rfl | rfl | rfl | rfl | rfl
      all_goals
        simp at hw ⊢
        omega
    have HV := Lib.hid hv256
    have hnn : ((n.toNat : Nat) : Int) = n := by omega
    have HNN := Lib.hid hnn
    clear hw hv256 hnn
    have HRT := Lib.hid (rtext_le s.data.toList (leB 1 (if f then 1 else 0) ++ List.replicate z 0) 1000 (by omega) (by omega) (by rw [toList_length]; omega))
    have HRF := Lib.hid (flag_le f (List.replicate z 0))
    rw [toList_length] at HRT
    rcases hfit with h8 | ⟨h8, hvw⟩
    all_goals
      go_wp2_with fail
      refine (newReader_calls bb _ (by omega)).mono ?_
      rintro e w7 ⟨br, rfl, hbr, h7, b7⟩
      rw [HTL.out] at h7
      have hge : w.heap.size ≤ br := by have := B6.out.size; omega
      have H7 := Lib.hid h7
      have B7 := Lib.hid (B6.out.trans (b7.mono B6.out.size))
      clear h7 b7 hbr
      go_wp2_with fail
      refine (wireAlive_calls _).mono ?_
      rintro e w8 ⟨rfl, b8⟩
      have B8 := Lib.hid (B7.out.trans (b8.mono B7.out.size))
      have H8 := Lib.hid (H7.out.below b8)
      clear b8
      go_wp2_with fail
      have hc := rnum_good br n.toNat v _ _ H8.out (by omega) (by omega) hv0 HV.out
      rw [HNN.out] at hc
      refine hc.mono ?_
      rintro e w9 ⟨rfl, h9, k9⟩
      have H9 := Lib.hid h9
      have B9 := Lib.hid (B8.out.trans (k9.below B8.out.size (fun k hk e => by omega)))
      clear h9 k9 hc
      go_wp2_with fail
      have hc := rint_calls br _ 0 _ H9.out
      have hle := rnum_le 8 (IntKind.u64.wrap i) (leB 2 s.size ++ s.data.toList ++ (leB 1 (if f then 1 else 0) ++ List.replicate z 0)) (by decide) (by decide) (u64_bd i).1 (by have := (u64_bd i).2; omega)
      have hle' : rnumR (leB 8 (IntKind.u64.wrap i) ++ (leB 2 s.size ++ s.data.toList ++ (leB 1 (if f then 1 else 0) ++ List.replicate z 0))) 0 8 = _ := hle
      rw [hle'] at hc
      simp only [Int.toNat_of_nonneg (u64_bd i).1] at hc
      rw [HWR.out] at hc
      refine hc.mono ?_
      rintro e w10 ⟨rfl, h10, k10⟩
      have H10 := Lib.hid h10
      have B10 := Lib.hid (B9.out.trans (k10.below B9.out.size (fun k hk e => by omega)))
      clear h10 k10 hc hle hle'
      go_wp2_with fail
      refine (rtext_calls br _ 0 1000 _ H10.out).mono ?_
      rw [HRT.out]
      rintro e w11 ⟨rfl, h11, k11⟩
      have H11 := Lib.hid h11
      have B11 := Lib.hid (B10.out.trans (k11.below B10.out.size (fun k hk e => by omega)))
      clear h11 k11
      have he : bstr s.data.toList = s := rfl
      rw [he]
      go_wp2_with fail
      refine (rflag_calls br _ 0 _ H11.out).mono ?_
      rw [HRF.out]
      rintro e w12 ⟨rfl, h12, k12⟩
      have H12 := Lib.hid h12
      have B12 := Lib.hid (B11.out.trans (k12.below B11.out.size (fun k hk e => by omega)))
      clear h12 k12
      go_wp2_with fail
      refine (rend_calls br _ 0 _ H12.out (by rw [List.length_replicate]; omega)).mono ?_
      have he : endR (List.replicate z 0) 0 = 0 := by unfold endR; rw [if_neg (by decide), if_pos (allZ_rep z)]
      rw [he]
      rintro e w13 ⟨rfl, m13, rfl⟩
      clear he
      go_wp2
      go_ret
      exact ⟨rfl, B12.out.trans (dr _ _ _ B12.out.size)⟩

set_option maxHeartbeats 2000000 in
theorem wireBack_calls (v n i : Int) (s : ByteArray) (f : Bool) (pad : Int) (w : World) (hv : (Lit.int .u64 v).wf = true) (hn : (Lit.int .i64 n).wf = true) (hi : (Lit.int .i64 i).wf = true) (hs : s.size ≤ 140737488351232) (hp : (Lit.int .i64 pad).wf = true) :
    Calls Tryd.prog 10 #[.int .u64 v, .int .i64 n, .int .i64 i, .string s, .bool f, .int .i64 pad] w fun r w' => r = .returned (.bool true) ∧ Below w.heap.size w w' := by
  have hv0 := Go.bounds_u64 hv
  have hi0 := Go.bounds_i64 hi
  clear hv hi hn hp
  by_cases hg : 1000 < (s.size : Int) ∨ n < 1 ∨ 8 < n ∨ pad < 0 ∨ 3000 < pad
  · by_cases h1 : 1000 < (s.size : Int)
    · clear hg
      go_enter Tryd.func10, Tryd.ntmps10
      go_wp2_with fail
      refine (wireAlive_calls _).mono ?_
      rintro e w1 ⟨rfl, b1⟩
      go_wp2
      go_ret
      exact ⟨rfl, b1⟩
    by_cases h2 : n < 1
    · clear hg
      go_enter Tryd.func10, Tryd.ntmps10
      go_wp2_with fail
      refine (wireAlive_calls _).mono ?_
      rintro e w1 ⟨rfl, b1⟩
      go_wp2
      go_ret
      exact ⟨rfl, b1⟩
    by_cases h3 : 8 < n
    · clear hg
      go_enter Tryd.func10, Tryd.ntmps10
      go_wp2_with fail
      refine (wireAlive_calls _).mono ?_
      rintro e w1 ⟨rfl, b1⟩
      go_wp2
      go_ret
      exact ⟨rfl, b1⟩
    by_cases h4 : pad < 0
    · clear hg
      go_enter Tryd.func10, Tryd.ntmps10
      go_wp2_with fail
      refine (wireAlive_calls _).mono ?_
      rintro e w1 ⟨rfl, b1⟩
      go_wp2
      go_ret
      exact ⟨rfl, b1⟩
    have h5 : 3000 < pad := by omega
    clear hg
    go_enter Tryd.func10, Tryd.ntmps10
    go_wp2_with fail
    refine (wireAlive_calls _).mono ?_
    rintro e w1 ⟨rfl, b1⟩
    go_wp2
    go_ret
    exact ⟨rfl, b1⟩
  · exact wireBack_main v n i s f pad w hv0.1 hv0.2 hi0.1 hi0.2 (by omega) (by omega) (by omega) (by omega) (by omega)

end Go.Proofs.YtpbmclaglkcmoaaDoor
