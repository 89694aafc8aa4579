import Derived.Test.YtpbmclaglkcmoaaRecPut
namespace Go.Proofs.Ytpbmclaglkcmoaa
open Go.RowKit
set_option linter.unusedVariables false
set_option linter.unusedSimpArgs false

def labelL (e l p n : Int) : List UInt8 := leB 8 e ++ leB 8 l ++ leB 1 p ++ leB 1 n
theorem labelL_length (e l p n : Int) : (labelL e l p n).length = 18 := by simp [labelL, leB_length]

set_option maxHeartbeats 4000000 in
set_option maxRecDepth 100000 in
theorem label_calls (e l p n : Int) (A : Value) (w : World) (hA : A.oneCell' = true) (he : 0 ≤ e) (he2 : e < 18446744073709551616) (hl : 0 ≤ l) (hl2 : l < 18446744073709551616) (hp : 0 ≤ p) (hp2 : p < 256) (hn : 0 ≤ n) (hn2 : n < 256) (c : Nat) (A0 : Option Addr) (k : Nat) (hAv : A = .slice A0 k c) :
    Calls Try.prog 67 #[.agg #[.int .u64 e, .int .u64 l, A], .int .i64 p, .int .i64 n] w fun r w' => r = .returned (.string (bstr (labelL e l p n))) ∧ Below w.heap.size w w' := by
  subst hAv
  have hqd : (leB 8 e ++ leB 8 l ++ leB 1 p ++ leB 1 n).toArray = (bstr (labelL e l p n)).data := rfl
  have HQD := Lib.hid hqd
  clear hqd
  generalize bstr (labelL e l p n) = q at HQD
  go_enter Try.func67, Try.ntmps67
  go_wp2_with fail
  obtain ⟨hwr, hbk, hB2, hsz⟩ := boxw w #[.int .u64 e, .int .u64 l, .slice A0 k c] 64
  generalize (w.alloc (.cells #[.int .u64 e, .int .u64 l, .slice A0 k c] 64)).alloc (.cells #[.slice none 0 0, .int .i64 0] 106) = W at hwr hbk hB2 hsz ⊢
  have hc0 : W.cell? ⟨w.heap.size, 0, none⟩ = some (.int .u64 e) := by rw [Lib.cell_of_heap hbk]; rfl
  have hc1 : W.cell? ⟨w.heap.size, 1, none⟩ = some (.int .u64 l) := by rw [Lib.cell_of_heap hbk]; rfl
  have hsz' : w.heap.size + 1 ≤ W.heap.size := by omega
  have HWR := Lib.hid hwr
  have HB2 := Lib.hid hB2
  clear hwr hB2 hsz hbk
  have hwp : IntKind.u64.wrap p = p := wraps_u64 p hp (by omega)
  have hwn : IntKind.u64.wrap n = n := wraps_u64 n hn (by omega)
  have wp := Lib.hid (wrong1 p hp hp2)
  have wn := Lib.hid (wrong1 n hn hn2)
  go_region_held3 (fun w' => w'.cell? ⟨w.heap.size, 0, none⟩ = some (.int .u64 e) ∧ w'.cell? ⟨w.heap.size, 1, none⟩ = some (.int .u64 l)) (go_keep)
    (first
      | (go_at_call_of 70 (Value.int .u64 e); (refine (num_good (w.heap.size + 1) (w.heap.size + 1) [] e 8 W.drew HWR.out (wrong8 _) hsz' he he2 (by decide)).mono ?_); rintro r w1 ⟨rfl, g1, k1⟩;
          have d0 := (k1.cell (p := ⟨w.heap.size, 0, none⟩) (Nat.lt_succ_self _)).trans hc0; have d1 := (k1.cell (p := ⟨w.heap.size, 1, none⟩) (Nat.lt_succ_self _)).trans hc1)
      | (go_at_call_of 70 (Value.int .u64 l); (refine (num_good (w.heap.size + 1) (w.heap.size + 1) (leB 8 e) l 8 w1 g1 (wrong8 _) (Nat.le_trans hsz' k1.size) hl hl2 (by rw [leB_length]; decide)).mono ?_); rintro r w2 ⟨rfl, g2, k2⟩;
          have d0' := (k2.cell (p := ⟨w.heap.size, 0, none⟩) (Nat.lt_succ_self _)).trans d0; have d1' := (k2.cell (p := ⟨w.heap.size, 1, none⟩) (Nat.lt_succ_self _)).trans d1)
      | (go_at_call_of 70 (Value.int .u64 p); (refine (num_good (w.heap.size + 1) (w.heap.size + 1) (leB 8 e ++ leB 8 l) p 1 w2 g2 wp.out (Nat.le_trans hsz' (Nat.le_trans k1.size k2.size)) hp (by omega) (by rw [List.length_append, leB_length, leB_length]; decide)).mono ?_); rintro r w3 ⟨rfl, g3, k3⟩;
          have d0'' := (k3.cell (p := ⟨w.heap.size, 0, none⟩) (Nat.lt_succ_self _)).trans d0'; have d1'' := (k3.cell (p := ⟨w.heap.size, 1, none⟩) (Nat.lt_succ_self _)).trans d1')
      | (go_at_call_of 70 (Value.int .u64 n); (refine (num_good (w.heap.size + 1) (w.heap.size + 1) (leB 8 e ++ leB 8 l ++ leB 1 p) n 1 w3 g3 wn.out (Nat.le_trans hsz' (Nat.le_trans k1.size (Nat.le_trans k2.size k3.size))) hn (by omega) (by rw [List.length_append, List.length_append, leB_length, leB_length, leB_length]; decide)).mono ?_); rintro r w4 ⟨rfl, g4, k4⟩;
          have d0''' := (k4.cell (p := ⟨w.heap.size, 0, none⟩) (Nat.lt_succ_self _)).trans d0''; have d1''' := (k4.cell (p := ⟨w.heap.size, 1, none⟩) (Nat.lt_succ_self _)).trans d1'')
      | (go_at_call 71; (refine (bytes_q _ _ _ q w4 g4 HQD.out).mono ?_); rintro r w5 ⟨rfl, m, rfl⟩))
  go_wp2
  go_ret
  refine ⟨rfl, ?_⟩
  have k5 : Below w.heap.size w w4 := (((HB2.out.drew.trans (k1.mono (Nat.le_succ _))).trans (k2.mono (Nat.le_succ _))).trans (k3.mono (Nat.le_succ _))).trans (k4.mono (Nat.le_succ _))
  exact drN k5 m

def imgL (x : Img) : List UInt8 := leB 4 x.b ++ leB 8 x.v ++ x.d.data.toList
def bodyL (l : List Img) : List UInt8 := l.flatMap imgL

theorem bodyL_snoc (l : List Img) (k : Nat) (h : k < l.length) : bodyL (l.take (k + 1)) = bodyL (l.take k) ++ imgL l[k] := by
  rw [List.take_succ_eq_append_getElem h]
  unfold bodyL
  rw [List.flatMap_append]
  simp

theorem imgL_length (x : Img) (h : x.d.size = 96) : (imgL x).length = 108 := by
  unfold imgL
  rw [List.length_append, List.length_append, leB_length, leB_length, toList_length, h]

theorem bodyL_length : ∀ (l : List Img), (∀ x ∈ l, x.d.size = 96) → (bodyL l).length = 108 * l.length
  | [], _ => rfl
  | x :: l, h => by
    have ih := bodyL_length l (fun y hy => h y (List.mem_cons_of_mem _ hy))
    have h1 := imgL_length x (h x List.mem_cons_self)
    show (imgL x ++ bodyL l).length = _
    rw [List.length_append, h1, ih, List.length_cons]
    omega

/-- Two new blocks, the second one a writer. -/
theorem boxw2 (w : World) (cs : Array Value) (t : TypeId) : ∃ W, W = (w.alloc (.cells cs t)).alloc (.cells #[.slice none 0 0, .int .i64 0] 106) ∧
    Wr (fun k => w.heap.size + 1 ≤ k) (w.heap.size + 1) [] 0 W ∧ W.heap[w.heap.size]? = some (.cells cs t (0, 0)) ∧ Below w.heap.size w W ∧ W.heap.size = w.heap.size + 2 :=
  ⟨_, rfl, boxw w cs t⟩

set_option maxHeartbeats 4000000 in
set_option maxRecDepth 100000 in
theorem body_calls (A : Option Addr) (c : Nat) (im : List Img) (w : World) (hI : Imgs w A im) (hl : im.length ≤ 60) (hr : ∀ x ∈ im, 0 ≤ x.b ∧ x.b < 4096 ∧ 0 ≤ x.v ∧ x.v < 18446744073709551616 ∧ x.d.size = 96) :
    Calls Try.prog 66 #[.slice A im.length c] w fun r w' => r = .returned (.string (bstr (bodyL im))) ∧ Below w.heap.size w w' := by
  have HI := Lib.hid hI
  have HR := Lib.hid hr
  clear hI hr
  go_enter Try.func66, Try.ntmps66
  go_wp2_with fail
  go_loopw [3, 11] (fun s3 s11 wr => ∃ (k : Nat) (q : ByteArray), k ≤ im.length ∧ s11 = .int .i64 k ∧ s3 = .string q ∧ q.size ≤ 108 * k ∧ Hid (q = bstr (bodyL (im.take k))) ∧ Hid (Below w.heap.size w wr)) (fun _ s11 _ => im.length - (intOf s11).toNat)
  case atStart => exact ⟨0, _, Nat.zero_le _, rfl, rfl, Nat.le_refl _, rfl, Below.refl _ _⟩
  case round =>
    obtain ⟨k, q, hk, rfl, rfl, hqs, HQ, HK⟩ := hrel
    by_cases hlt : k < im.length
    · obtain ⟨ib, io, hA, c0, c1, c2⟩ := (HI.out.below HK.out) k hlt
      obtain ⟨hb0, hb1, hv0, hv1, hd⟩ := HR.out im[k] (List.getElem_mem hlt)
      subst hA
      generalize hx : im[k] = x at c0 c1 c2 hb0 hb1 hv0 hv1 hd
      have HX := Lib.hid hx
      clear hx
      have hds : x.d.size ≤ 96 := Nat.le_of_eq hd
      have HD := Lib.hid hd
      clear hd
      go_wp2_with fail
      obtain ⟨hwr, hbk, hB2, hsz⟩ := boxw wr #[.int .i64 x.b, .int .u64 x.v, .string x.d] 99
      generalize (wr.alloc (.cells #[.int .i64 x.b, .int .u64 x.v, .string x.d] 99)).alloc (.cells #[.slice none 0 0, .int .i64 0] 106) = W at hwr hbk hB2 hsz ⊢
      have t0 : W.cell? ⟨wr.heap.size, 0, none⟩ = some (.int .i64 x.b) := by rw [Lib.cell_of_heap hbk]; rfl
      have t1 : W.cell? ⟨wr.heap.size, 1, none⟩ = some (.int .u64 x.v) := by rw [Lib.cell_of_heap hbk]; rfl
      have t2 : W.cell? ⟨wr.heap.size, 2, none⟩ = some (.string x.d) := by rw [Lib.cell_of_heap hbk]; rfl
      have hsz' : wr.heap.size + 1 ≤ W.heap.size := by omega
      have HWR := Lib.hid hwr
      have HB2 := Lib.hid hB2
      clear hwr hB2 hsz hbk c0 c1 c2
      have hwb : IntKind.u64.wrap x.b = x.b := wraps_u64 x.b hb0 (by omega)
      have wb := Lib.hid (wrong4 x.b hb0 (by omega))
      have hq2 : (leB 4 x.b ++ leB 8 x.v).toArray = (bstr (leB 4 x.b ++ leB 8 x.v)).data := rfl
      have HQ2 := Lib.hid hq2
      have hqz : (bstr (leB 4 x.b ++ leB 8 x.v)).size ≤ 12 := by rw [bstr_size, List.length_append, leB_length, leB_length]; decide
      have HQE : Hid (bstr (leB 4 x.b ++ leB 8 x.v) ++ x.d = bstr (imgL x)) := by
        show _ = _
        rw [bapp]
        rfl
      clear hq2
      generalize bstr (leB 4 x.b ++ leB 8 x.v) = q2 at HQ2 hqz HQE
      go_region_held3 (fun w' => w'.cell? ⟨wr.heap.size, 0, none⟩ = some (.int .i64 x.b) ∧ w'.cell? ⟨wr.heap.size, 1, none⟩ = some (.int .u64 x.v) ∧ w'.cell? ⟨wr.heap.size, 2, none⟩ = some (.string x.d)) (go_keep)
        (first
          | (go_at_call_of 70 (Value.int .u64 x.b); (refine (num_good (wr.heap.size + 1) (wr.heap.size + 1) [] x.b 4 W.drew HWR.out wb.out hsz' hb0 (by omega) (by decide)).mono ?_); rintro r w1 ⟨rfl, g1, k1⟩;
              have d0 := (k1.cell (p := ⟨wr.heap.size, 0, none⟩) (Nat.lt_succ_self _)).trans t0; have d1 := (k1.cell (p := ⟨wr.heap.size, 1, none⟩) (Nat.lt_succ_self _)).trans t1; have d2 := (k1.cell (p := ⟨wr.heap.size, 2, none⟩) (Nat.lt_succ_self _)).trans t2)
          | (go_at_call_of 70 (Value.int .u64 x.v); (refine (num_good (wr.heap.size + 1) (wr.heap.size + 1) (leB 4 x.b) x.v 8 w1 g1 (wrong8 _) (Nat.le_trans hsz' k1.size) hv0 hv1 (by rw [leB_length]; decide)).mono ?_); rintro r w2 ⟨rfl, g2, k2⟩;
              have d0' := (k2.cell (p := ⟨wr.heap.size, 0, none⟩) (Nat.lt_succ_self _)).trans d0; have d1' := (k2.cell (p := ⟨wr.heap.size, 1, none⟩) (Nat.lt_succ_self _)).trans d1; have d2' := (k2.cell (p := ⟨wr.heap.size, 2, none⟩) (Nat.lt_succ_self _)).trans d2)
          | (go_at_call 71; (refine (bytes_q _ _ _ q2 w2 g2 HQ2.out).mono ?_); rintro r w5 ⟨rfl, m, rfl⟩))
      have k5 : Below wr.heap.size wr (w2.drewN m) := drN ((HB2.out.drew.trans (k1.mono (Nat.le_succ _))).trans (k2.mono (Nat.le_succ _))) m
      have K5 := Lib.hid k5
      have hz1 : (q2 ++ x.d).size ≤ 108 := by rw [ByteArray.size_append]; omega
      have hz2 : (q ++ (q2 ++ x.d)).size ≤ 108 * (k + 1) := by rw [ByteArray.size_append]; omega
      clear g1 g2 k1 k2 k5 d0 d1 d0' d1' d2 t0 t1 t2 HWR HB2
      go_wp2
      go_roundw
      case rel =>
        refine ⟨k + 1, q ++ (q2 ++ x.d), by omega, by go_num, rfl, hz2, ?_, bl HK.out K5.out⟩
        show _ = _
        rw [bodyL_snoc im k hlt, HX.out, HQE.out, HQ.out]
        exact bapp2 _ _
      case measure => simp [intOf]; omega
    · have hkk : im.take k = im := List.take_of_length_le (by omega)
      have HKK := Lib.hid hkk
      clear hkk
      go_wp2
      go_ret
      refine ⟨?_, HK.out⟩
      have := HQ.out
      rw [HKK.out] at this
      rw [this]
      rfl

end Go.Proofs.Ytpbmclaglkcmoaa
