import Derived.Test.YtpbmclaglkcmoaaDoorFoot
import Derived.Test.YtpbmclaglkcmoaaDoorProg
namespace Go.Proofs.YtpbmclaglkcmoaaDoor
open Go.RowKit
set_option linter.unusedVariables false

/-- A wire.Writer at the head of block b: its bytes, its error. F: the blocks that it may own. -/
def Wr (F : Nat → Prop) (b : Nat) (bs : List UInt8) (err : Int) (w : World) : Prop :=
  F b ∧ ∃ v, w.heap[b]? = some (.cells #[v, .int .i64 err] 27 (0, 0)) ∧ w.ownsRow 0 5 1 v bs.length (Lib.byteCells bs) ∧ ∀ k, v.ownBlock = some k → F k

theorem Wr.lt {F : Nat → Prop} {b : Nat} {bs : List UInt8} {err : Int} {w : World} (h : Wr F b bs err w) : b < w.heap.size := by
  obtain ⟨_, v, hb, _⟩ := h
  exact lt_of_heap hb

theorem Wr.mono {F G : Nat → Prop} {b : Nat} {bs : List UInt8} {err : Int} {w : World} (h : Wr F b bs err w) (hG : ∀ k, F k → G k) : Wr G b bs err w := by
  obtain ⟨h1, v, hb, ho, hk⟩ := h
  exact ⟨hG _ h1, v, hb, ho, fun k e => hG _ (hk k e)⟩

/-- A writer that nobody touches stays. -/
theorem Wr.keep {F G : Nat → Prop} {b : Nat} {bs : List UInt8} {err : Int} {w w' : World} (h : Wr F b bs err w) (hk : KeptF G w w') (hd : ∀ k, F k → ¬ G k) : Wr F b bs err w' := by
  obtain ⟨h1, v, hb, ho, hF⟩ := h
  refine ⟨h1, v, (hk.block b (lt_of_heap hb) (hd _ h1)).trans hb, ownsRow_keep ho ?_, hF⟩
  intro k e
  exact hk.block k (ho.lt k e).2 (hd _ (hF k e))

theorem Wr.setErr {F : Nat → Prop} {b : Nat} {bs : List UInt8} {err : Int} {w : World} (h : Wr F b bs err w) (e : Int) : Wr F b bs e (w.setCell ⟨b, 1, none⟩ (.int .i64 e)) := by
  obtain ⟨h1, v, hb, ho, hF⟩ := h
  have hne := Lib.ownBlock_ne ho hb (by decide)
  refine ⟨h1, v, by simp [World.setCell, Array.getElem?_modify, hb], ownsRow_keep ho ?_, hF⟩
  intro k ek
  exact Below.heap_setCell _ _ _ _ (fun e' => hne (by rw [ek]; exact congrArg some e'))

theorem Wr.put {F : Nat → Prop} {b : Nat} {v v' : Value} {bs' : List UInt8} {err : Int} {w : World} (h1 : F b) (hb : w.heap[b]? = some (.cells #[v, .int .i64 err] 27 (0, 0))) (ho : w.ownsRow 0 5 1 v' bs'.length (Lib.byteCells bs')) (hF : ∀ k, v'.ownBlock = some k → F k) :
    Wr F b bs' err (w.setCell ⟨b, 0, none⟩ v') := by
  have hne := Lib.ownBlock_ne ho hb (by decide)
  refine ⟨h1, v', by simp [World.setCell, Array.getElem?_modify, hb], ownsRow_keep ho ?_, hF⟩
  intro k ek
  exact Below.heap_setCell _ _ _ _ (fun e' => hne (by rw [ek]; exact congrArg some e'))

theorem Wr.cells {F : Nat → Prop} {b : Nat} {bs : List UInt8} {err : Int} {w : World} (h : Wr F b bs err w) : ∃ v, w.cell? ⟨b, 0, none⟩ = some v ∧ w.cell? ⟨b, 1, none⟩ = some (.int .i64 err) ∧ w.frozen? ⟨b, 0, none⟩ = false ∧ w.frozen? ⟨b, 1, none⟩ = false := by
  obtain ⟨h1, v, hb, ho, hF⟩ := h
  exact ⟨v, by rw [Lib.cell_of_heap hb]; rfl, by rw [Lib.cell_of_heap hb]; rfl, Lib.frozen_of_heap hb 0, Lib.frozen_of_heap hb 1⟩

/-- (*Writer).fails: the first error stays. -/
def failErr (err e : Int) : Int := if err = 0 then e else err

set_option maxHeartbeats 400000 in
theorem fails_calls (F : Nat → Prop) (b : Nat) (bs : List UInt8) (err e : Int) (w : World) (h : Wr F b bs err w) :
    Calls Tryd.prog 60 #[.pointer (some ⟨b, 0, none⟩), .int .i64 e] w fun r w' => r = .returned (.bool (failErr err e != 0)) ∧ Wr F b bs (failErr err e) w' ∧ KeptF F w w' := by
  obtain ⟨v, c0, c1, f0, f1⟩ := h.cells
  by_cases he : err = 0
  · subst he
    have hs := Lib.hid (h.setErr e)
    have hF := Lib.hid h.1
    clear h
    go_enter Tryd.func60, Tryd.ntmps60
    go_wp2
    go_ret
    exact ⟨by simp [failErr], hs.out, (KeptF.refl F w).setCell (.inl hF.out) _⟩
  · have he1 : (err == 0) = false := beq_eq_false_iff_ne.2 he
    have he2 : (err != 0) = true := bne_iff_ne.2 he
    have hs := Lib.hid h
    clear h
    go_enter Tryd.func60, Tryd.ntmps60
    go_wp2
    go_ret
    exact ⟨by simp [failErr, he], by simpa [failErr, he] using hs.out, KeptF.refl F w⟩

/-- wire.wrongNum. -/
def wrongN (v n : Int) : Int := if n < 1 ∨ 8 < n then 1 else if n < 8 ∧ v / 2 ^ (8 * n.toNat) ≠ 0 then 1 else 0

set_option maxHeartbeats 400000 in
theorem wrongNum_calls (v n : Int) (w : World) (hv : 0 ≤ v) (hv2 : v < 18446744073709551616) :
    Calls Tryd.prog 61 #[.int .u64 v, .int .i64 n] w fun r w' => r = .returned (.int .i64 (wrongN v n)) ∧ w = w' := by
  by_cases h1 : n < 1
  · go_enter Tryd.func61, Tryd.ntmps61
    go_wp2
    go_ret
    exact ⟨by simp [wrongN, h1], rfl⟩
  by_cases h2 : 8 < n
  · go_enter Tryd.func61, Tryd.ntmps61
    go_wp2
    go_ret
    exact ⟨by simp [wrongN, h2], rfl⟩
  have h3 : n = 1 ∨ n = 2 ∨ n = 3 ∨ n = 4 ∨ n = 5 ∨ n = 6 ∨ n = 7 ∨ n = 8 := by omega
  rcases h3 with rfl | rfl | rfl | rfl | rfl | rfl | rfl | rfl
  all_goals
    go_enter Tryd.func61, Tryd.ntmps61
    go_wp2
    all_goals
      go_ret
      exact ⟨by simp_all [wrongN], rfl⟩

/-- So many bytes of a number, the lowest first. -/
def leB : Nat → Int → List UInt8
  | 0, _ => []
  | k + 1, v => UInt8.ofNat (v.toNat % 256) :: leB k (v / 256)

theorem leB_length : ∀ (k : Nat) (v : Int), (leB k v).length = k
  | 0, _ => rfl
  | k + 1, v => by simp [leB, leB_length k]

theorem byteCell (v : Int) (h : 0 ≤ v) : Value.int .u8 (v % 256) = Value.int .u8 ((UInt8.ofNat (v.toNat % 256)).toNat : Int) := by
  congr 1
  rw [UInt8.toNat_ofNat']
  omega

theorem byteCells_one (c : UInt8) : Lib.byteCells [c] = [Value.int .u8 (c.toNat : Int)] := rfl

theorem Tryd.info5w : (Tryd.prog.info? 5).map (fun i => (i.zero, i.size, i.bytes)) = some (some (.int .u8 0), 1, 1) := by kernel_rfl

set_option maxHeartbeats 2000000 in
theorem num_ok (F : Nat → Prop) (b : Nat) (bs : List UInt8) (v n : Int) (w : World) (h : Wr F b bs 0 w) (hv : 0 ≤ v) (hv2 : v < 18446744073709551616) (hw : wrongN v n = 0) (hl : bs.length + 8 ≤ 140737488355328) :
    Calls Tryd.prog 16 #[.pointer (some ⟨b, 0, none⟩), .int .u64 v, .int .i64 n] w fun r w' => r = .returned (.pointer (some ⟨b, 0, none⟩)) ∧ Wr (fun k => F k ∨ w.heap.size ≤ k) b (bs ++ leB n.toNat v) 0 w' ∧ KeptF F w w' := by
  have hn1 : 1 ≤ n ∧ n ≤ 8 := by unfold wrongN at hw; split at hw <;> omega
  obtain ⟨hn1, hn8⟩ := hn1
  have HW := Lib.hid hw
  clear hw
  have HH := Lib.hid h
  clear h
  go_enter Tryd.func16, Tryd.ntmps16
  go_wp2_with fail
  refine (wrongNum_calls v n _ hv hv2).mono ?_
  rintro e w1 ⟨rfl, rfl⟩
  rw [HW.out]
  go_wp2_with fail
  refine (fails_calls F b bs 0 0 _ HH.out).mono ?_
  rintro e w1 ⟨rfl, h1, k1⟩
  have H1 := Lib.hid h1
  have K1 := Lib.hid k1
  clear h1 k1
  have hz : (failErr 0 0 != 0) = false := rfl
  rw [hz]
  go_wp2_with fail
  have hF := Lib.hid HH.out.1
  clear HH
  go_loopw [1, 18] (fun s1 s18 wr => ∃ (k : Nat) (bk : List UInt8) (vk : Int), (k : Int) ≤ n ∧ s18 = .int .i64 k ∧ s1 = .int .u64 vk ∧ 0 ≤ vk ∧ vk < 18446744073709551616 ∧ bk.length = bs.length + k ∧ Hid (bk ++ leB (n.toNat - k) vk = bs ++ leB n.toNat v) ∧ Hid (Wr (fun k => F k ∨ w.heap.size ≤ k) b bk 0 wr) ∧ Hid (KeptF F w wr)) (fun _ s18 _ => (n - intOf s18).toNat)
  case atStart => exact ⟨0, bs, v, by omega, rfl, rfl, hv, hv2, rfl, rfl, H1.out.mono (fun k hk => .inl hk), K1.out⟩
  case round =>
    clear H1 K1
    obtain ⟨k, bk, vk, hk, rfl, rfl, hv0, hvk, hbl, HE, HR, HK⟩ := hrel
    have HBL := Lib.hid hbl
    clear hbl
    by_cases hlt : (k : Int) < n
    · obtain ⟨h1, cur, hb, ho, hFo⟩ := HR.out
      have c0 : wr.cell? ⟨b, 0, none⟩ = some cur := by rw [Lib.cell_of_heap hb]; rfl
      have f0 : wr.frozen? ⟨b, 0, none⟩ = false := Lib.frozen_of_heap hb 0
      obtain ⟨i0, hi, hz0, hz1, hz2⟩ := info_parts Tryd.info5w
      have hbw : b < wr.heap.size := lt_of_heap hb
      have HB := Lib.hid hb
      have HO := Lib.hid ho
      have HFO := Lib.hid hFo
      clear hb ho hFo
      have hbkl : (Lib.byteCells bk).length = bk.length := Lib.byteCells_length bk
      have HBK := Lib.hid hbkl
      clear hbkl
      have hbkb : bk.length + 1 ≤ 140737488355328 := by have := HBL.out; omega
      go_wp2_with (at_builtin; refine wpList_append_own2 _ rfl (.tmp 24) (.tmp 27) 24 rfl 5 i0 (.int .u8 0) 1 1 Tryd.underlying24 hi hz0 hz1 hz2 rfl (by decide) cur bk.length (Lib.byteCells bk) rfl (HO.out.alloc _) ⟨wr.heap.size, 0, none⟩ 1 1 [.int .u8 (vk % 256)] rfl rfl ?c1 ?c2 ?c3 ?c4 ?_)
      case c2 => rfl
      case c3 => unfold maxLen; omega
      intro v' w2 hown' hgrow hwh
      have HWH := Lib.hid hwh
      clear hwh
      have hbk2 : w2.heap[b]? = some (.cells #[cur, .int .i64 0] 27 (0, 0)) := by
        rw [hgrow.block b (by simp; omega) (fun e => Lib.ownBlock_ne HO.out HB.out (by decide) e.symm), Lib.alloc_old wr _ b hbw]
        exact HB.out
      have d0 : w2.cell? ⟨b, 0, none⟩ = some cur := by rw [Lib.cell_of_heap hbk2]; rfl
      have g0 : w2.frozen? ⟨b, 0, none⟩ = false := Lib.frozen_of_heap hbk2 0
      have HB2 := Lib.hid hbk2
      have HG := Lib.hid hgrow
      have HO2 := Lib.hid hown'
      obtain ⟨gv, cap, rfl⟩ : ∃ g cap, v' = .slice (some ⟨g, 0, none⟩) (bk.length + 1) cap := by
        rcases hown'.2 with ⟨_, h0⟩ | ⟨g, cap, cur', hv', _⟩
        · omega
        · exact ⟨g, cap, hv'⟩
      clear hbk2 hgrow hown' hi hz0 hz1 hz2
      go_wp2
      go_roundw
      case rel =>
        have e1 : bk ++ [UInt8.ofNat (vk.toNat % 256)] ++ leB (n.toNat - (k + 1)) (vk / 256) = bs ++ leB n.toNat v := by
          rw [← HE.out, show n.toNat - k = (n.toNat - (k + 1)) + 1 from by omega]
          simp [leB]
        have e2 : (Lib.byteCells bk ++ [Value.int .u8 (vk % 256)]) = Lib.byteCells (bk ++ [UInt8.ofNat (vk.toNat % 256)]) := by
          rw [Lib.byteCells_append, byteCells_one, byteCell vk hv0]
        have e3 := HO2.out
        rw [e2] at e3
        have hlen : (bk ++ [UInt8.ofNat (vk.toNat % 256)]).length = bk.length + 1 := by simp
        refine ⟨k + 1, bk ++ [UInt8.ofNat (vk.toNat % 256)], vk / 256, by omega, by go_num, rfl, by omega, by omega, by rw [hlen, HBL.out]; omega, e1, ?_, ?_⟩
        · refine Wr.put (.inl hF.out) HB2.out (by rw [hlen]; exact e3) ?_
          intro j ej
          rcases HWH.out j ej with hj | hj
          · exact HFO.out j hj
          · exact .inr (by have := HK.out.size; omega)
        · refine KeptF.setCell ?_ (.inl hF.out) _
          exact KeptF.grown (HK.out.alloc _) HG.out HFO.out
      case measure => simp [intOf]; omega
    · go_wp2
      go_ret
      have hkn : n.toNat - k = 0 := by omega
      have e1 := HE.out
      rw [hkn] at e1
      simp only [leB, List.append_nil] at e1
      subst e1
      exact ⟨rfl, HR.out, HK.out⟩

theorem num_fails (F : Nat → Prop) (b : Nat) (bs : List UInt8) (err v n : Int) (w : World) (h : Wr F b bs err w) (hv : 0 ≤ v) (hv2 : v < 18446744073709551616) (hw : failErr err (wrongN v n) ≠ 0) :
    Calls Tryd.prog 16 #[.pointer (some ⟨b, 0, none⟩), .int .u64 v, .int .i64 n] w fun r w' => r = .returned (.pointer (some ⟨b, 0, none⟩)) ∧ Wr F b bs (failErr err (wrongN v n)) w' ∧ KeptF F w w' := by
  have hz : (failErr err (wrongN v n) != 0) = true := bne_iff_ne.2 hw
  have HZ := Lib.hid hz
  have HH := Lib.hid h
  clear h hz hw
  go_enter Tryd.func16, Tryd.ntmps16
  go_wp2_with fail
  refine (wrongNum_calls v n _ hv hv2).mono ?_
  rintro e w1 ⟨rfl, rfl⟩
  go_wp2_with fail
  refine (fails_calls F b bs err (wrongN v n) _ HH.out).mono ?_
  rintro e w1 ⟨rfl, h1, k1⟩
  have H1 := Lib.hid h1
  have K1 := Lib.hid k1
  clear h1 k1
  rw [HZ.out]
  go_wp2
  go_ret
  exact ⟨rfl, H1.out, K1.out⟩

/-- Num, as what it makes of the bytes and the error. -/
def numW (s : List UInt8 × Int) (v n : Int) : List UInt8 × Int := if failErr s.2 (wrongN v n) = 0 then (s.1 ++ leB n.toNat v, 0) else (s.1, failErr s.2 (wrongN v n))

theorem num_calls (F : Nat → Prop) (b : Nat) (s : List UInt8 × Int) (v n : Int) (w : World) (h : Wr F b s.1 s.2 w) (hv : 0 ≤ v) (hv2 : v < 18446744073709551616) (hl : s.1.length + 8 ≤ 140737488355328) :
    Calls Tryd.prog 16 #[.pointer (some ⟨b, 0, none⟩), .int .u64 v, .int .i64 n] w fun r w' => r = .returned (.pointer (some ⟨b, 0, none⟩)) ∧ Wr (fun k => F k ∨ w.heap.size ≤ k) b (numW s v n).1 (numW s v n).2 w' ∧ KeptF F w w' := by
  by_cases hf : failErr s.2 (wrongN v n) = 0
  · have h0 : s.2 = 0 ∧ wrongN v n = 0 := by
      unfold failErr at hf
      split at hf
      · exact ⟨‹_›, hf⟩
      · contradiction
    rw [h0.1] at h
    refine (num_ok F b s.1 v n w h hv hv2 h0.2 hl).mono ?_
    intro e w' ⟨a, c, d⟩
    rw [numW, if_pos hf]
    exact ⟨a, c, d⟩
  · refine (num_fails F b s.1 s.2 v n w h hv hv2 hf).mono ?_
    intro e w' ⟨a, c, d⟩
    rw [numW, if_neg hf]
    exact ⟨a, c.mono (fun k hk => .inl hk), d⟩

/-- Num, for a writer over all blocks from B on. -/
theorem num_at (B b : Nat) (bs : List UInt8) (err v n : Int) (w : World) (h : Wr (fun k => B ≤ k) b bs err w) (hB : B ≤ w.heap.size) (hv : 0 ≤ v) (hv2 : v < 18446744073709551616) (hl : bs.length + 8 ≤ 140737488355328) :
    Calls Tryd.prog 16 #[.pointer (some ⟨b, 0, none⟩), .int .u64 v, .int .i64 n] w fun r w' => r = .returned (.pointer (some ⟨b, 0, none⟩)) ∧ Wr (fun k => B ≤ k) b (numW (bs, err) v n).1 (numW (bs, err) v n).2 w' ∧ Below B w w' := by
  refine (num_calls (fun k => B ≤ k) b (bs, err) v n w h hv hv2 hl).mono ?_
  rintro e w' ⟨h1, h2, h3⟩
  exact ⟨h1, h2.mono (fun k hk => by rcases hk with hk | hk <;> omega), h3.below hB (fun k hk => by omega)⟩

theorem numW_ok (bs : List UInt8) (v n : Int) (h : wrongN v n = 0) : numW (bs, 0) v n = (bs ++ leB n.toNat v, 0) := by
  simp [numW, failErr, h]

theorem wrong8 (v : Int) : wrongN v 8 = 0 := by simp [wrongN]
theorem wrong4 (v : Int) (h0 : 0 ≤ v) (h : v < 4294967296) : wrongN v 4 = 0 := by
  have : v / 4294967296 = 0 := by omega
  unfold wrongN
  rw [if_neg (by omega), if_neg (by simp [this])]
theorem wrong1 (v : Int) (h0 : 0 ≤ v) (h : v < 256) : wrongN v 1 = 0 := by
  have : v / 256 = 0 := by omega
  unfold wrongN
  rw [if_neg (by omega), if_neg (by simp [this])]
theorem wrong2 (v : Int) (h0 : 0 ≤ v) (h : v < 65536) : wrongN v 2 = 0 := by
  have : v / 65536 = 0 := by omega
  unfold wrongN
  rw [if_neg (by omega), if_neg (by simp [this])]

/-- Num, where it goes well. -/
theorem num_good (B b : Nat) (bs : List UInt8) (v n : Int) (w : World) (h : Wr (fun k => B ≤ k) b bs 0 w) (hw : wrongN v n = 0) (hB : B ≤ w.heap.size) (hv : 0 ≤ v) (hv2 : v < 18446744073709551616) (hl : bs.length + 8 ≤ 140737488355328) :
    Calls Tryd.prog 16 #[.pointer (some ⟨b, 0, none⟩), .int .u64 v, .int .i64 n] w fun r w' => r = .returned (.pointer (some ⟨b, 0, none⟩)) ∧ Wr (fun k => B ≤ k) b (bs ++ leB n.toNat v) 0 w' ∧ Below B w w' := by
  have := num_at B b bs 0 v n w h hB hv hv2 hl
  rw [numW_ok bs v n hw] at this
  exact this

/-- Bytes: what it tells. -/
def bytesW (s : List UInt8 × Int) : ByteArray := if s.2 = 0 then ⟨s.1.toArray⟩ else ⟨#[]⟩

set_option maxHeartbeats 400000 in
theorem bytes_calls0 (F : Nat → Prop) (b : Nat) (bs : List UInt8) (err : Int) (w : World) (h : Wr F b bs err w) :
    Calls Tryd.prog 17 #[.pointer (some ⟨b, 0, none⟩)] w fun r w' => r = .returned (.tuple #[.string (bytesW (bs, err)), .int .i64 err]) ∧ ∃ m, w' = w.drewN m := by
  obtain ⟨hF, v, hb, ho, hk⟩ := h
  have c0 : w.cell? ⟨b, 0, none⟩ = some v := by rw [Lib.cell_of_heap hb]; rfl
  have c1 : w.cell? ⟨b, 1, none⟩ = some (.int .i64 err) := by rw [Lib.cell_of_heap hb]; rfl
  by_cases he : err = 0
  · subst he
    obtain ⟨A, c, rfl⟩ := own_slice w ho
    have hc := own_string (P := Tryd.prog) w (src := 24) (dst := 9) (e := 5) Tryd.underlying24 Tryd.underlying5 Tryd.underlying9 ho
    clear hb ho hk hF
    go_enter Tryd.func17, Tryd.ntmps17
    go_wp2
    go_ret2
    exact ⟨rfl, 0, rfl⟩
  · have he2 : (err != 0) = true := bne_iff_ne.2 he
    have HE := Lib.hid he
    clear hb ho hk hF he
    go_enter Tryd.func17, Tryd.ntmps17
    go_wp2
    go_region
    go_wp2
    go_ret2
    exact ⟨by simp [bytesW, HE.out], 1, rfl⟩

theorem bytes_calls (F : Nat → Prop) (b : Nat) (s : List UInt8 × Int) (w : World) (h : Wr F b s.1 s.2 w) :
    Calls Tryd.prog 17 #[.pointer (some ⟨b, 0, none⟩)] w fun r w' => r = .returned (.tuple #[.string (bytesW s), .int .i64 s.2]) ∧ ∃ m, w' = w.drewN m :=
  bytes_calls0 F b s.1 s.2 w h

/-- Bytes, where nothing went wrong. -/
theorem bytes_q (F : Nat → Prop) (b : Nat) (bs : List UInt8) (q : ByteArray) (w : World) (h : Wr F b bs 0 w) (hq : bs.toArray = q.data) :
    Calls Tryd.prog 17 #[.pointer (some ⟨b, 0, none⟩)] w fun r w' => r = .returned (.tuple #[.string q, .int .i64 0]) ∧ ∃ m, w' = w.drewN m := by
  have h1 := bytes_calls0 F b bs 0 w h
  have e : bytesW (bs, 0) = q := by
    show ByteArray.mk bs.toArray = q
    rw [hq]
  rw [e] at h1
  exact h1

theorem Wr.fresh (w : World) : Wr (fun k => w.heap.size ≤ k) w.heap.size [] 0 (w.alloc (.cells #[.slice none 0 0, .int .i64 0] 27)) :=
  ⟨Nat.le_refl _, .slice none 0 0, heap_alloc_new w _, World.ownsRow_nil _ _ _ _, by simp [Value.ownBlock]⟩

end Go.Proofs.YtpbmclaglkcmoaaDoor
