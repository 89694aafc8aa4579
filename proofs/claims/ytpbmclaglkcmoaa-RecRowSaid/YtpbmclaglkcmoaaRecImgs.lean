import Derived.Test.YtpbmclaglkcmoaaRecFirst
import Derived.Deep.AppendLies
import Derived.KernelRfl
namespace Go.Proofs.Ytpbmclaglkcmoaa
open Go.RowKit
set_option linter.unusedVariables false
set_option linter.unusedSimpArgs false

def imgAt (s : List UInt8) : Img := ⟨leV (s.take 4), leV ((s.drop 4).take 8), bstr (s.drop 12)⟩
def imgsL (b : List UInt8) : Nat → List Img
  | 0 => []
  | k + 1 => imgsL b k ++ [imgAt ((b.drop (108 * k)).take 108)]
theorem imgsL_length (b : List UInt8) : ∀ k, (imgsL b k).length = k
  | 0 => rfl
  | k + 1 => by simp [imgsL, imgsL_length b k]
/-- The cells of images. -/
def imgC : List Img → List Value
  | [] => []
  | x :: l => .int .i64 x.b :: .int .u64 x.v :: .string x.d :: imgC l
theorem imgC_snoc (x : Img) : ∀ l : List Img, imgC (l ++ [x]) = imgC l ++ [.int .i64 x.b, .int .u64 x.v, .string x.d]
  | [] => rfl
  | y :: l => by simp [imgC, imgC_snoc x l]
theorem imgC_get : ∀ (l : List Img) (j : Nat) (h : j < l.length), (imgC l)[j * 3]? = some (.int .i64 l[j].b) ∧ (imgC l)[j * 3 + 1]? = some (.int .u64 l[j].v) ∧ (imgC l)[j * 3 + 2]? = some (.string l[j].d)
  | [], j, h => absurd h (Nat.not_lt_zero _)
  | x :: l, 0, h => ⟨rfl, rfl, rfl⟩
  | x :: l, j + 1, h => by
    have := imgC_get l j (by simpa using h)
    rw [show (j + 1) * 3 = j * 3 + 3 by omega]
    simpa [imgC] using this

theorem addr_add0 (g j : Nat) : (⟨g, 0, none⟩ : Addr).add j = ⟨g, j, none⟩ := by unfold Addr.add; split <;> simp_all

theorem ownB_keep {w w' : World} {B e size n : Nat} {v : Value} {xs : List Value} (h : w.ownsRow B e size v n xs) (hk : ∀ k, v.ownBlock = some k → w'.heap[k]? = w.heap[k]?) : w'.ownsRow B e size v n xs := by
  rcases h with ⟨h1, h2⟩
  refine ⟨h1, ?_⟩
  rcases h2 with h2 | ⟨g, cap, cur, hv, hg, hh, r⟩
  · exact Or.inl h2
  · exact Or.inr ⟨g, cap, cur, hv, hg, by rw [hk g (by rw [hv]; rfl)]; exact hh, r⟩
theorem ownB_ge {w : World} {base : Nat} {e : TypeId} {size n : Nat} {v : Value} {xs : List Value} (h : w.ownsRow base e size v n xs) (k : Nat) (hk : v.ownBlock = some k) : base ≤ k ∧ k < w.heap.size := by
  rcases h.2 with ⟨rfl, _⟩ | ⟨g, cap, cur, rfl, hb, hh, _⟩
  · simp [Value.ownBlock] at hk
  · have : g = k := by simpa [Value.ownBlock] using hk
    subst this
    exact ⟨hb, lt_of_heap hh⟩
theorem ownB_below {w w' : World} {B e size n : Nat} {v : Value} {xs : List Value} (h : w.ownsRow B e size v n xs) (hb : Below w.heap.size w w') : w'.ownsRow B e size v n xs :=
  ownB_keep h (fun k hk => hb.block k (ownB_ge h k hk).2)

theorem own_pass {wr w2 w3 w4 w5 : World} {B e size k b : Nat} {v : Value} {xs : List Value} (h : wr.ownsRow B e size v k xs) (hb2 : Below wr.heap.size wr w2) (hbge : wr.heap.size ≤ b) (hk3 : KeptB b w2.drew w3) (hk4 : KeptB b w3 w4) (hb5 : Below w4.heap.size w4 w5) : w5.ownsRow B e size v k xs := by
  refine ownB_keep h (fun j hj => ?_)
  have h1 := (ownB_ge h j hj).2
  have s2 := hb2.size
  have s3 : w2.heap.size ≤ w3.heap.size := hk3.size
  have s4 := hk4.size
  have e2 := hb2.block j h1
  have e3 : w3.heap[j]? = w2.heap[j]? := hk3.block j (by show j < w2.heap.size; omega) (by omega)
  have e4 := hk4.block j (by omega) (by omega)
  have e5 := hb5.block j (by omega)
  rw [e5, e4, e3, e2]
theorem below_pass {w wr w2 w3 w4 w5 : World} {b : Nat} (h : Below w.heap.size w wr) (hb2 : Below wr.heap.size wr w2) (hbge : wr.heap.size ≤ b) (hk3 : KeptB b w2.drew w3) (hk4 : KeptB b w3 w4) (hb5 : Below w4.heap.size w4 w5) : Below w.heap.size w w5 := by
  have s1 := h.size
  have s2 := hb2.size
  have s3 : w2.heap.size ≤ w3.heap.size := hk3.size
  have s4 := hk4.size
  have h2 := (h.trans (hb2.mono s1)).drew
  have h3 := h2.trans (hk3.below (by show w.heap.size ≤ w2.heap.size; omega) (fun k h e => by omega))
  have h4 := h3.trans (hk4.below (by omega) (fun k h e => by omega))
  exact h4.trans (hb5.mono (by omega))

theorem Try.infoImg : (Try.prog.info? 99).map (fun i => (i.zero, i.size, i.bytes)) = some (some (.agg #[.int .i64 0, .int .u64 0, .string ⟨#[]⟩]), 3, 32) := by kernel_rfl

theorem imgC_length : ∀ l : List Img, (imgC l).length = l.length * 3
  | [] => rfl
  | x :: l => by simp [imgC, imgC_length l]; omega

theorem Imgs.own {w : World} {B : Nat} {v : Value} {l : List Img} (h : w.ownsRow B 99 3 v l.length (imgC l)) : ∃ A c, v = .slice A l.length c ∧ l.length ≤ c ∧ Imgs w A l ∧ ∀ ad : Addr, A = some ad → B ≤ ad.block := by
  rcases h.2 with ⟨rfl, h0⟩ | ⟨g, cap, cur, rfl, hBg, _, hc, _⟩
  · refine ⟨none, 0, ?_, by omega, ?_, fun ad h => by cases h⟩
    · rw [h0]
    · intro j hj
      omega
  · refine ⟨_, cap, rfl, hc, ?_, fun ad h => by cases h; exact hBg⟩
    intro j hj
    obtain ⟨e0, e1, e2⟩ := imgC_get l j hj
    have hcell := h.cells (g := g) rfl
    refine ⟨g, 0, rfl, ?_, ?_, ?_⟩
    all_goals simp only [Nat.zero_add]
    · have := hcell _ _ e0; rwa [addr_add0] at this
    · have := hcell _ _ e1; rwa [addr_add0] at this
    · have := hcell _ _ e2; rwa [addr_add0] at this

set_option maxHeartbeats 4000000 in
set_option maxRecDepth 100000 in
theorem images_calls (s : ByteArray) (n : Nat) (w : World) (hn : n ≤ 60) (hs : 108 * n ≤ s.size) (hs2 : s.size ≤ 1000000) :
    Calls Try.prog 69 #[.string s, .int .i64 n] w fun r w' => ∃ A c, r = .returned (.slice A n c) ∧ n ≤ c ∧ Imgs w' A (imgsL s.data.toList n) ∧ (∀ ad : Addr, A = some ad → w.heap.size ≤ ad.block) ∧ Below w.heap.size w w' := by
  have hbe : s.size = s.data.toList.length := (toList_length s).symm
  go_enter Try.func69, Try.ntmps69
  go_wp2_with fail
  go_loopw [5, 10] (fun s5 s10 wr => ∃ (k : Nat) (v : Value), k ≤ n ∧ s10 = .int .i64 k ∧ s5 = v ∧ Hid (wr.ownsRow w.heap.size 99 3 v k (imgC (imgsL s.data.toList k))) ∧ Hid (Below w.heap.size w wr)) (fun _ s10 _ => n - (intOf s10).toNat)
  case atStart => exact ⟨0, _, Nat.zero_le _, rfl, rfl, World.ownsRow_nil w _ _ _, Below.refl _ _⟩
  case round =>
    obtain ⟨k, v, hk, rfl, rfl, HO, HK⟩ := hrel
    by_cases hlt : k < n
    · obtain ⟨lo, hlo⟩ : ∃ lo : Nat, (k : Int) * 108 = (lo : Int) := ⟨k * 108, by omega⟩
      obtain ⟨h1, hh1⟩ : ∃ h1 : Nat, ((k : Int) + 1) * 108 = (h1 : Int) := ⟨(k + 1) * 108, by omega⟩
      have hi0 : (0 : Int) ≤ (lo : Int) := Int.natCast_nonneg _
      have hi1 : (0 : Int) ≤ (h1 : Int) := Int.natCast_nonneg _
      have hi2 : (lo : Int) ≤ (h1 : Int) := by omega
      have hi3 : (h1 : Int) ≤ (s.size : Int) := by omega
      have hex : s.extract lo h1 = bstr ((s.data.toList.drop (108 * k)).take 108) := by
        apply bstr_eq
        rw [ByteArray.data_extract, Array.toList_extract, List.extract_eq_take_drop, show lo = 108 * k by omega, show h1 - 108 * k = 108 by omega]
      have hpl : ((s.data.toList.drop (108 * k)).take 108).length = 108 := by
        rw [List.length_take, List.length_drop, ← hbe]; omega
      have hsn : Hid (imgC (imgsL s.data.toList (k + 1)) = imgC (imgsL s.data.toList k) ++ [.int .i64 (imgAt ((s.data.toList.drop (108 * k)).take 108)).b, .int .u64 (imgAt ((s.data.toList.drop (108 * k)).take 108)).v, .string (imgAt ((s.data.toList.drop (108 * k)).take 108)).d]) := imgC_snoc _ _
      generalize (s.data.toList.drop (108 * k)).take 108 = p at hex hpl hsn
      have HEX := Lib.hid hex
      have HP := Lib.hid hpl
      have hps : (bstr p).size = 108 := hpl
      clear hbe hpl
      go_wp2_with fail
      refine (newReader_calls _ _ (by omega)).mono ?_
      rintro r w2 ⟨b, rfl, hbge, hR, hb2⟩
      rw [bstr_toList] at hR
      have hx12 : (bstr p).extract 12 108 = bstr (p.drop 12) := by
        have := ext_drop (bstr p) 12
        rw [hps] at this
        exact bstr_eq _ _ this
      have hwb : IntKind.i64.wrap (leV (p.take 4) : Int) = leV (p.take 4) := by
        have := leV_lt (p.take 4)
        rw [List.length_take, HP.out] at this
        rw [IntKind.wrap_i64]
        have h2 : (256 : Nat) ^ min 4 108 = 4294967296 := rfl
        omega
      have hds : (bstr (p.drop 12)).size = 96 := by rw [bstr_size, List.length_drop, HP.out]
      have HSN : Hid (imgC (imgsL s.data.toList (k + 1)) = imgC (imgsL s.data.toList k) ++ [.int .i64 (leV (p.take 4)), .int .u64 (leV ((p.drop 4).take 8)), .string (bstr (p.drop 12))]) := hsn
      clear hsn hex
      generalize bstr (p.drop 12) = D at hx12 hds HSN
      generalize bstr p = P at hx12 hps
      have HRD : Hid (Rd b p 0 w2.drew) := hR
      have HB2 := Lib.hid hb2
      have HBG := Lib.hid hbge
      clear hR hb2 hbge
      have hO2 : Hid (w2.ownsRow w.heap.size 99 3 u5 k (imgC (imgsL s.data.toList k))) := ownB_below HO.out HB2.out
      obtain ⟨i0, hi', hz0, hz1, hz2⟩ := info_parts Try.infoImg
      go_wp2_with fail
      go_region_held3 (fun _ => True) (trivial)
        (first
          | (go_at_call_of 73 (Value.int .i64 4); (refine (rnum_take b 4 p w2.drew HRD.out (by decide) (by decide) (by have := HP.out; omega)).mono ?_); rintro r w3 ⟨rfl, hR3, hk3⟩)
          | (go_at_call_of 73 (Value.int .i64 8); (refine (rnum_take b 8 (p.drop 4) w3 hR3 (by decide) (by decide) (by have := HP.out; rw [List.length_drop]; omega)).mono ?_); rintro r w4 ⟨rfl, hR4, hk4⟩)
          | (go_at_call 52; (refine (clone_calls D w4 (by omega)).mono ?_); rintro r w5 ⟨rfl, hb5⟩)
          | (refine step_append_lies _ (by rfl) _ _ _ (by rfl) w.heap.size 99 i0 _ 3 32 Try.underlying62 hi' hz0 hz1 hz2 rfl (by omega) u5 k (imgC (imgsL s.data.toList k)) (by rfl) ((own_pass HO.out HB2.out HBG.out hk3 hk4 hb5).alloc _)
              ⟨w5.heap.size, 0, none⟩ 1 1 [.int .i64 (leV (p.take 4)), .int .u64 (leV ((p.drop 4).take 8)), .string D] (by rfl) (by rfl) (World.news_of_block (cs := #[.int .i64 (leV (p.take 4)), .int .u64 (leV ((p.drop 4).take 8)), .string D]) (t := 99) (fr := (0, 0)) (heap_alloc_new w5 _)) (by simp [Value.oneCell'])
              (by omega) (by simp only [maxLen]; omega) (by omega) (by have := (below_pass HK.out HB2.out HBG.out hk3 hk4 hb5).size; simp; omega) (w5.heap.size + 1) (by simp) ?_; intro gg cap w6 hown6 hgrow hat hlt6))
      have K6 : Hid (Below w.heap.size w w6) := by
        have h5 := below_pass HK.out HB2.out HBG.out hk3 hk4 hb5
        exact (al h5 _).grown hgrow (by have := h5.size; simp; omega) (fun j hj => (ownB_ge HO.out j hj).1)
      rw [← HSN.out] at hown6
      have O6 := Lib.hid hown6
      clear hk3 hk4 hb5 hgrow hat hlt6 hown6 hR3 hR4
      go_wp2
      go_roundw
      case rel => exact ⟨k + 1, _, by omega, by go_num, rfl, O6.out, K6.out⟩
      case measure => simp [intOf]; omega
    · have hkn : k = n := by omega
      subst hkn
      go_wp2
      go_ret
      have hO := HO.out
      have hOO : wr.ownsRow w.heap.size 99 3 u5 (imgsL s.data.toList k).length (imgC (imgsL s.data.toList k)) := by rw [imgsL_length]; exact hO
      obtain ⟨A, c, hv, hc, hI, hA⟩ := Imgs.own hOO
      rw [imgsL_length] at hv hc
      exact ⟨A, c, by rw [hv]; rfl, hc, hI, hA, HK.out⟩

end Go.Proofs.Ytpbmclaglkcmoaa
