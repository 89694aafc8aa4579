import Derived.Test.YtpbmclaglkcmoaaDoorDigits
import Derived.Deep.RegionWith
namespace Go.Proofs.YtpbmclaglkcmoaaDoor
open Go.RowKit
set_option linter.unusedVariables false
set_option linter.unusedSimpArgs false

/-- A Writer's calls, for a writer over all blocks from B on. -/
theorem wr_at {B b : Nat} {s : List UInt8 × Int} {w : World} {f : FuncId} {args : Array Value} (hB : B ≤ w.heap.size)
    (h : Calls Tryd.prog f args w fun r w' => r = .returned (.pointer (some ⟨b, 0, none⟩)) ∧ Wr (fun k => B ≤ k ∨ w.heap.size ≤ k) b s.1 s.2 w' ∧ KeptF (fun k => B ≤ k) w w') :
    Calls Tryd.prog f args w fun r w' => r = .returned (.pointer (some ⟨b, 0, none⟩)) ∧ Wr (fun k => B ≤ k) b s.1 s.2 w' ∧ Below B w w' := by
  refine h.mono ?_
  rintro e w' ⟨h1, h2, h3⟩
  exact ⟨h1, h2.mono (fun k hk => by rcases hk with hk | hk <;> omega), h3.below hB (fun k hk => by omega)⟩

theorem digits7 (w : World) : Calls Tryd.prog 41 #[.int .i64 (-7)] w fun r w' => r = .returned (.string ⟨#[45, 55]⟩) ∧ Below w.heap.size w w' := by
  have h := digits_calls (-7) w (by decide) (by decide)
  have e : bstr (digitsL (-7)) = ⟨#[45, 55]⟩ := by
    unfold digitsL
    rw [if_pos (by decide), digs_lt (by decide)]
    rfl
  rw [e] at h
  exact h

set_option maxHeartbeats 2000000 in
set_option maxRecDepth 100000 in
theorem wireAlive_calls (w : World) :
    Calls Tryd.prog 15 #[] w fun r w' => r = .returned (.bool true) ∧ Below w.heap.size w w' := by
  go_enter Tryd.func15, Tryd.ntmps15
  go_wp2_with fail
  refine (wr_at (Nat.le_of_lt (by simp)) (num_calls (fun k => w.heap.size ≤ k) w.heap.size ([], 0) 258 2 _ (Wr.fresh w) (by decide) (by decide) (by decide))).mono ?_
  rintro e w1 ⟨rfl, h1, b1⟩
  have hn : numW ([], 0) 258 2 = ([2, 1], 0) := by decide
  rw [hn] at h1
  have H1 := Lib.hid h1
  have B1 := Lib.hid (al (Below.refl _ w) _ |>.trans b1)
  clear h1 b1 hn
  go_wp2_with fail
  refine (wr_at B1.out.size (text_calls (fun k => w.heap.size ≤ k) w.heap.size ([2, 1], 0) ⟨#[97]⟩ 9 _ H1.out (by decide))).mono ?_
  rintro e w2 ⟨rfl, h2, b2⟩
  have hn : textW ([2, 1], 0) (⟨#[97]⟩ : ByteArray).data.toList 9 = ([2, 1, 1, 0, 97], 0) := by decide
  rw [hn] at h2
  have H2 := Lib.hid h2
  have B2 := Lib.hid (B1.out.trans b2)
  clear h2 b2 hn H1
  go_wp2_with fail
  refine (wr_at B2.out.size (flag_calls (fun k => w.heap.size ≤ k) w.heap.size ([2, 1, 1, 0, 97], 0) true _ H2.out (by decide))).mono ?_
  rintro e w3 ⟨rfl, h3, b3⟩
  have hn : flagW ([2, 1, 1, 0, 97], 0) true = ([2, 1, 1, 0, 97, 1], 0) := by decide
  rw [hn] at h3
  have H3 := Lib.hid h3
  have B3 := Lib.hid (B2.out.trans b3)
  clear h3 b3 hn H2
  go_wp2_with fail
  refine (bytes_calls (fun k => w.heap.size ≤ k) w.heap.size ([2, 1, 1, 0, 97, 1], 0) _ H3.out).mono ?_
  rintro e w4 ⟨rfl, m4, rfl⟩
  have hn : bytesW ([2, 1, 1, 0, 97, 1], 0) = ⟨#[2, 1, 1, 0, 97, 1]⟩ := by decide
  rw [hn]
  clear hn
  go_wp2_with fail
  refine (newReader_calls ⟨#[2, 1, 5]⟩ _ (by decide)).mono ?_
  rintro e w5 ⟨b, rfl, hb, h5, b5⟩
  have h5' : Rd b [2, 1, 5] 0 w5 := h5
  have H5 := Lib.hid h5'
  have hlt : w.heap.size < b := Nat.lt_of_lt_of_le H3.out.lt hb
  have hge : w.heap.size ≤ b := by omega
  have B5 := Lib.hid (B3.out.trans (⟨rfl, rfl, rfl, Nat.le_refl _, fun _ _ => rfl⟩ : Below w.heap.size w3 (w3.drewN m4)) |>.trans (b5.mono B3.out.size))
  clear h5 h5' hb b5 hlt
  go_wp2_with fail
  refine (rnum_calls b [2, 1, 5] 0 2 _ H5.out).mono ?_
  have hn : rnumR [2, 1, 5] 0 2 = (258, [5], 0) := by decide
  rw [hn]
  rintro e w6 ⟨rfl, h6, k6⟩
  have H6 := Lib.hid h6
  have B6 := Lib.hid (B5.out.trans (k6.below B5.out.size (fun k hk e => by omega)))
  clear h6 k6 hn
  go_wp2_with fail
  refine (rend_calls b [5] 0 _ H6.out (by decide)).mono ?_
  have hn : endR [5] 0 = 4 := by decide
  rw [hn]
  rintro e w7 ⟨rfl, m7, rfl⟩
  clear hn
  go_wp2_with fail
  refine (digits7 _).mono ?_
  rintro e w8 ⟨rfl, b8⟩
  go_wp2
  go_ret
  exact ⟨rfl, (B6.out.trans (⟨rfl, rfl, rfl, Nat.le_refl _, fun _ _ => rfl⟩ : Below w.heap.size w6 (w6.drewN m7))).trans (b8.mono B6.out.size)⟩

end Go.Proofs.YtpbmclaglkcmoaaDoor
