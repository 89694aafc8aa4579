import Derived.Test.YtpbmclaglkcmoaaDoorMsgG
namespace Go.Proofs.YtpbmclaglkcmoaaDoor
open Go.RowKit
set_option linter.unusedVariables false
set_option linter.unusedSimpArgs false

/-- The message's cells while four numbers are read. -/
def KC (kd : Nat) (s : RS) : Nat → Array Value
  | 0 => #[.int .i64 kd, .int .i64 0, .int .i64 0, .int .i64 0, .int .i64 0, .int .u64 0, .int .i64 0, .slice none 0 0]
  | k + 1 => (KC kd s k).setIfInBounds (k + 1) (.int .i64 (rsN (sq s k) 4))
theorem KC_size (kd : Nat) (s : RS) : ∀ k, (KC kd s k).size = 8
  | 0 => rfl
  | k + 1 => by simp [KC, KC_size kd s k]

def PT (M : Nat) : Array Value := #[.pointer (some ⟨M, 1, none⟩), .pointer (some ⟨M, 2, none⟩), .pointer (some ⟨M, 3, none⟩), .pointer (some ⟨M, 4, none⟩)]
theorem PT_get (M : Nat) : ∀ k, k < 4 → (PT M)[k]? = some (.pointer (some ⟨M, k + 1, none⟩))
  | 0, _ => rfl
  | 1, _ => rfl
  | 2, _ => rfl
  | 3, _ => rfl
theorem KC_some (kd : Nat) (s : RS) (k i : Nat) (h : i < 8) : ∃ v, (KC kd s k)[i]? = some v := by
  have := KC_size kd s k
  exact ⟨_, Array.getElem?_eq_getElem (by omega)⟩

/-- The message's cells, the locks v. -/
def KF (m : MsgR) (v : Value) : Array Value := #[.int .i64 m.kind, .int .i64 m.id, .int .i64 m.node, .int .i64 m.gen, .int .i64 m.stamp, .int .u64 m.epoch, .int .i64 m.err, v]
theorem KC_end (l : List UInt8) : ((KC (rsN (l, 0) 1) (s1 l) 4).setIfInBounds 6 (.int .i64 (rsN (s5 l) 4))).setIfInBounds 5 (.int .u64 (rsN (s6 l) 8)) = KF (rawD l) (.slice none 0 0) := by
  rfl

set_option maxHeartbeats 8000000 in
set_option maxRecDepth 100000 in
theorem msgGet_calls (l : List UInt8) (w : World) (hl : l.length ≤ 1000000) :
    Calls Tryd.prog 35 #[.string (bstr l)] w fun r w' => ∃ (m : MsgR) (e : Int) (A : Option Addr) (c : Nat), (m, e) = getD l ∧ r = .returned (.tuple #[msgV m A c, .int .i64 e]) ∧ Locks w' A m.locks ∧ m.locks.length ≤ c ∧ Below w.heap.size w w' := by
  have HL := Lib.hid hl
  clear hl
  go_enter Tryd.func35, Tryd.ntmps35
  go_wp2_with fail
  refine (newReader_calls (bstr l) _ (by have := HL.out; have := bstr_size l; omega)).mono ?_
  rw [bstr_toList]
  rintro r w1 ⟨b, rfl, hb, hR, b1⟩
  have hbB : w.heap.size < b := by simp at hb; omega
  have h0 : w1.heap[w.heap.size]? = some (.cells #[.int .i64 0, .int .i64 0, .int .i64 0, .int .i64 0, .int .i64 0, .int .u64 0, .int .i64 0, .slice none 0 0] 53 (0, 0)) := (b1.block _ (by simp)).trans (heap_alloc_new w _)
  have HB1 : Hid (Below w.heap.size w w1) := (al (Below.refl _ w) _).trans (b1.mono (by simp))
  have HR1 := Lib.hid hR
  have H0 := Lib.hid h0
  clear hb hR b1 h0
  go_wp2_with fail
  refine (rnum_calls b l 0 1 _ HR1.out).mono ?_
  rintro r w2 ⟨rfl, hR2, k2⟩
  have hkd : (rnumR l 0 1).1 = rsN (l, 0) 1 := rfl
  rw [hkd]
  have hlt1 := rnum1_lt l 0
  rw [hkd] at hlt1
  generalize hkk : rsN (l, 0) 1 = kd at hlt1
  have HKD := Lib.hid hkk
  have hgs : GS w.heap.size b w2.heap.size w (s1 l) (KC kd (s1 l) 0) (w2.alloc (.cells (KC kd (s1 l) 0) 53)) := by
    have hs := lt_of_heap H0.out
    have e0 := (k2.block w.heap.size hs (by omega)).trans H0.out
    refine ⟨(Lib.alloc_old w2 _ b (lt_of_heap hR2)).trans hR2, heap_alloc_new w2 _, (Lib.alloc_old w2 _ _ (lt_of_heap e0)).trans e0, (HB1.out.trans (k2.below (Nat.le_of_lt hs) (fun k h e => by omega))).alloc (Nat.le_of_lt (lt_of_heap e0)) _, hbB, lt_of_heap hR2⟩
  have HGS := Lib.hid hgs
  clear hkd hkk hgs hR2 k2 HR1 HB1 H0
  go_wp2_with fail
  have HG1 := Lib.hid (HGS.out.alloc (.cells (PT w2.heap.size) 103))
  have HP1 : Hid (((w2.alloc (.cells (KC kd (s1 l) 0) 53)).alloc (.cells (PT w2.heap.size) 103)).heap[w2.heap.size + 1]? = some (.cells (PT w2.heap.size) 103 (0, 0))) := by
    have := heap_alloc_new (w2.alloc (.cells (KC kd (s1 l) 0) 53)) (.cells (PT w2.heap.size) 103)
    rw [show (w2.alloc (.cells (KC kd (s1 l) 0) 53)).heap.size = w2.heap.size + 1 by simp] at this
    exact this
  go_loopw [24] (fun s24 wr => ∃ k : Nat, k ≤ 4 ∧ s24 = .int .i64 k ∧ Hid (GS w.heap.size b w2.heap.size w (sq (s1 l) k) (KC kd (s1 l) k) wr) ∧ Hid (wr.heap[w2.heap.size + 1]? = some (.cells (PT w2.heap.size) 103 (0, 0)))) (fun s24 _ => 4 - (intOf s24).toNat)
  case atStart => exact ⟨0, by omega, rfl, HG1.out, HP1.out⟩
  case round =>
    clear HG1 HP1 HGS
    obtain ⟨k, hk, rfl, HG, HP⟩ := hrel
    by_cases hlt : k < 4
    · have hki : (k : Int) < 4 := by omega
      have hk0 : (0 : Int) ≤ (k : Int) := Int.natCast_nonneg _
      have hbM := HG.out.lt
      have c0 : wr.cell? ⟨w2.heap.size + 1, k, none⟩ = some (.pointer (some ⟨w2.heap.size, k + 1, none⟩)) := by rw [Lib.cell_of_heap HP.out]; exact PT_get _ k hlt
      go_wp2_with fail
      refine (HG.out.num 4).mono ?_
      rintro r w4 ⟨rfl, G4, k4⟩
      have P4 := Lib.hid ((k4.block _ (lt_of_heap HP.out) (by omega)).trans HP.out)
      have hv := rnum4_lt (sq (s1 l) k).1 (sq (s1 l) k).2
      have hve : (rnumR (sq (s1 l) k).1 (sq (s1 l) k).2 4).1 = rsN (sq (s1 l) k) 4 := rfl
      rw [hve] at hv
      have hKC : KC kd (s1 l) (k + 1) = (KC kd (s1 l) k).setIfInBounds (k + 1) (.int .i64 (rsN (sq (s1 l) k) 4)) := rfl
      have hSQ : sq (s1 l) (k + 1) = rsS (sq (s1 l) k) 4 := rfl
      have hG5 : Hid (GS w.heap.size b w2.heap.size w (sq (s1 l) (k + 1)) (KC kd (s1 l) (k + 1)) (w4.setCell ⟨w2.heap.size, k + 1, none⟩ (.int .i64 (rsN (sq (s1 l) k) 4)))) := G4.out.set (k + 1) _
      have P5 : Hid ((w4.setCell ⟨w2.heap.size, k + 1, none⟩ (.int .i64 (rsN (sq (s1 l) k) 4))).heap[w2.heap.size + 1]? = some (.cells (PT w2.heap.size) 103 (0, 0))) := (Below.heap_setCell w4 ⟨w2.heap.size, k + 1, none⟩ _ (w2.heap.size + 1) (by show w2.heap.size + 1 ≠ w2.heap.size; omega)).trans P4.out
      generalize rsN (sq (s1 l) k) 4 = v at hv hG5 P5
      have f0 := G4.out.free (k + 1)
      obtain ⟨vo, hvo⟩ := KC_some kd (s1 l) k (k + 1) (by omega)
      have c1 : w4.cell? ⟨w2.heap.size, k + 1, none⟩ = some vo := (G4.out.cell (k + 1)).trans hvo
      clear hve hKC hSQ k4 hvo hbM
      go_wp2_with fail
      go_roundw
      case rel => exact ⟨k + 1, by omega, by go_num, hG5.out, P5.out⟩
      case measure => simp [intOf]; omega
    · have hk4 : k = 4 := by omega
      subst hk4
      clear HP
      have HG' : Hid (GS w.heap.size b w2.heap.size w (s5 l) (KC kd (s1 l) 4) wr) := HG.out
      clear HG
      go_wp2_with fail
      refine (HG'.out.num 4).mono ?_
      rintro r w3 ⟨rfl, G3, k3⟩
      have hv := rnum4_lt (s5 l).1 (s5 l).2
      have hve : (rnumR (s5 l).1 (s5 l).2 4).1 = rsN (s5 l) 4 := rfl
      rw [hve] at hv
      have G4 : Hid (GS w.heap.size b w2.heap.size w (s6 l) ((KC kd (s1 l) 4).setIfInBounds 6 (.int .i64 (rsN (s5 l) 4))) (w3.setCell ⟨w2.heap.size, 6, none⟩ (.int .i64 (rsN (s5 l) 4)))) := G3.out.set 6 _
      generalize hnr : rsN (s5 l) 4 = er at hv G4
      have HER := Lib.hid hnr
      have f0 := G3.out.free 6
      obtain ⟨vo, hvo⟩ := KC_some kd (s1 l) 4 6 (by omega)
      have c1 : w3.cell? ⟨w2.heap.size, 6, none⟩ = some vo := (G3.out.cell 6).trans hvo
      clear hve hnr k3 hvo HG'
      go_wp2_with fail
      clear f0 c1 G3
      refine (G4.out.num 8).mono ?_
      rintro r w5 ⟨rfl, G5, k5⟩
      have hv2 := rnum8_lt (s6 l).1 (s6 l).2
      have hve : (rnumR (s6 l).1 (s6 l).2 8).1 = rsN (s6 l) 8 := rfl
      rw [hve] at hv2
      have G6 : Hid (GS w.heap.size b w2.heap.size w (s7 l) (((KC kd (s1 l) 4).setIfInBounds 6 (.int .i64 er)).setIfInBounds 5 (.int .u64 (rsN (s6 l) 8))) (w5.setCell ⟨w2.heap.size, 5, none⟩ (.int .u64 (rsN (s6 l) 8)))) := G5.out.set 5 _
      generalize hnp : rsN (s6 l) 8 = ep at hv2 G6
      have HEP := Lib.hid hnp
      have f0 := G5.out.free 5
      obtain ⟨vo2, hvo2⟩ : ∃ v, ((KC kd (s1 l) 4).setIfInBounds 6 (.int .i64 er))[5]? = some v := by
        have := KC_size kd (s1 l) 4
        exact ⟨_, Array.getElem?_eq_getElem (by simp; omega)⟩
      have c1 : w5.cell? ⟨w2.heap.size, 5, none⟩ = some vo2 := (G5.out.cell 5).trans hvo2
      clear hve hnp k5 hvo2 G4
      go_wp2_with fail
      clear f0 c1 G5
      have hK : (((KC kd (s1 l) 4).setIfInBounds 6 (.int .i64 er)).setIfInBounds 5 (.int .u64 ep)) = KF (rawD l) (.slice none 0 0) := by
        rw [← HKD.out, ← HER.out, ← HEP.out]
        exact KC_end l
      rw [hK] at G6
      clear hK
      have HN : Hid (cN l ≤ 200) := count_le _ _
      refine (rcount_calls b (s7 l).1 (s7 l).2 200 _ G6.out.1).mono ?_
      rintro r w6 ⟨rfl, hR6, k6⟩
      have G7 : Hid (GS w.heap.size b w2.heap.size w (s8 l) (KF (rawD l) (.slice none 0 0)) w6) := G6.out.kept (s' := s8 l) hR6 k6
      have hcn : (countR (s7 l).1 (s7 l).2 200).1 = cN l := rfl
      rw [hcn]
      have HCN : Hid (∃ n, n = cN l) := ⟨_, rfl⟩
      obtain ⟨n, hn⟩ := HCN.out
      rw [← hn]
      have hn200 : n ≤ 200 := by rw [hn]; exact HN.out
      have HNN := Lib.hid hn
      have HRD : Hid (∃ m, m = rawD l) := ⟨_, rfl⟩
      obtain ⟨m, hm⟩ := HRD.out
      rw [← hm] at G7
      have HM := Lib.hid hm
      clear hcn HCN HRD hR6 k6 G6 hn hm HN
      go_wp2_with fail
      have O7 : Hid (w6.ownsRow (w2.heap.size + 1) 101 3 (.slice none 0 0) 0 (lockC (locksD (s8 l) 0))) := World.ownsRow_nil w6 _ _ _
      go_loopw [43] (fun s43 wr => ∃ (k : Nat) (v : Value), k ≤ n ∧ s43 = .int .i64 k ∧ Hid (GS w.heap.size b w2.heap.size w (lq (s8 l) k) (KF m v) wr) ∧ Hid (wr.ownsRow (w2.heap.size + 1) 101 3 v k (lockC (locksD (s8 l) k)))) (fun s43 _ => n - (intOf s43).toNat)
      case atStart => exact ⟨0, _, Nat.zero_le _, rfl, G7.out, O7.out⟩
      case round =>
        clear G7 O7
        obtain ⟨k, v, hk, rfl, HG, HO⟩ := hrel
        by_cases hlt : k < n
        · have HSN : Hid (lockC (locksD (s8 l) (k + 1)) = lockC (locksD (s8 l) k) ++ [.int .i64 (rsN (lq (s8 l) k) 4), .int .i64 (rsN (rsS (lq (s8 l) k) 4) 4), .int .i64 (rsN (rsS (rsS (lq (s8 l) k) 4) 4) 1)]) := lockC_snoc _ _
          have HLQ : Hid (lq (s8 l) (k + 1) = rsS (rsS (rsS (lq (s8 l) k) 4) 4) 1) := rfl
          generalize lq (s8 l) k = S at HG HSN HLQ
          have hv1 : rsN S 4 < 4294967296 := rnum4_lt S.1 S.2
          have hv2 : rsN (rsS S 4) 4 < 4294967296 := rnum4_lt (rsS S 4).1 (rsS S 4).2
          have hv3 : rsN (rsS (rsS S 4) 4) 1 < 256 := rnum1_lt (rsS (rsS S 4) 4).1 (rsS (rsS S 4) 4).2
          have N1 := Lib.hid (fun W (hW : GS w.heap.size b w2.heap.size w S (KF m v) W) => hW.num 4)
          have N2 := Lib.hid (fun W (hW : GS w.heap.size b w2.heap.size w (rsS S 4) (KF m v) W) => hW.num 4)
          have N3 := Lib.hid (fun W (hW : GS w.heap.size b w2.heap.size w (rsS (rsS S 4) 4) (KF m v) W) => hW.num 1)
          generalize rsN S 4 = n1 at hv1 N1 HSN
          generalize rsN (rsS S 4) 4 = n2 at hv2 N2 HSN
          generalize rsN (rsS (rsS S 4) 4) 1 = n3 at hv3 N3 HSN
          go_wp2_with fail
          refine (N1.out _ HG.out).mono ?_
          rintro r w3 ⟨rfl, G3, k3⟩
          go_wp2_with fail
          refine (N2.out _ G3.out).mono ?_
          rintro r w4 ⟨rfl, G4, k4⟩
          go_wp2_with fail
          refine (N3.out _ G4.out).mono ?_
          rintro r w5 ⟨rfl, G5, k5⟩
          have O5 : Hid (w5.ownsRow (w2.heap.size + 1) 101 3 v k (lockC (locksD (s8 l) k))) := by
            refine ownB_keep HO.out (fun j hj => ?_)
            have h1 := (ownB_ge HO.out j hj)
            have hb := HG.out.lt
            have s3 : wr.heap.size ≤ w3.heap.size := k3.size
            have s4 : w3.heap.size ≤ w4.heap.size := k4.size
            rw [k5.block j (by omega) (by omega), k4.block j (by omega) (by omega), k3.block j (by omega) (by omega)]
          clear k3 k4 k5 G3 G4 N1 N2 N3
          have cM7 : w5.cell? ⟨w2.heap.size, 7, none⟩ = some v := by rw [G5.out.cell]; rfl
          have hbM := G5.out.lt
          obtain ⟨hlt1, hlt2, hlt3⟩ := hbM
          obtain ⟨i0, hi', hz0, hz1, hz2⟩ := info_parts Tryd.infoLock
          have O6 : Hid (((w5.alloc (.cells #[.int .i64 n1, .int .i64 n2, .int .i64 n3] 101)).alloc (.cells #[.int .i64 n1, .int .i64 n2, .int .i64 n3] 101)).ownsRow (w2.heap.size + 1) 101 3 v k (lockC (locksD (s8 l) k))) := (O5.out.alloc _).alloc _
          have G6 := Lib.hid ((G5.out.alloc (.cells #[.int .i64 n1, .int .i64 n2, .int .i64 n3] 101)).alloc (.cells #[.int .i64 n1, .int .i64 n2, .int .i64 n3] 101))
          go_wp2_with (at_builtin; refine wpList_append_lies _ rfl _ _ _ rfl (w2.heap.size + 1) 101 i0 _ 3 24 Tryd.underlying51 hi' hz0 hz1 hz2 rfl (by omega) v k (lockC (locksD (s8 l) k)) rfl O6.out ⟨w5.heap.size + 1, 0, none⟩ 1 1 [.int .i64 n1, .int .i64 n2, .int .i64 n3] rfl rfl (World.news_of_block (cs := #[.int .i64 n1, .int .i64 n2, .int .i64 n3]) (t := 101) (fr := (0, 0)) (by have := heap_alloc_new (w5.alloc (.cells #[.int .i64 n1, .int .i64 n2, .int .i64 n3] 101)) (.cells #[.int .i64 n1, .int .i64 n2, .int .i64 n3] 101); rw [show (w5.alloc (.cells #[.int .i64 n1, .int .i64 n2, .int .i64 n3] 101)).heap.size = w5.heap.size + 1 by simp] at this; exact this)) (by simp [Value.oneCell']) (by omega) (by simp only [maxLen]; omega) (by omega) (by simp; omega) _ rfl ?_)
          intro gg cap w7 hown hgrow hat hlt7
          have G7 : Hid (GS w.heap.size b w2.heap.size w (rsS (rsS (rsS S 4) 4) 1) (KF m v) w7) := G6.out.grown hgrow (fun j hj => by have := (ownB_ge O6.out j hj).1; omega)
          rw [← HSN.out] at hown
          have hggM : w2.heap.size + 1 ≤ gg := by have := ownB_ge hown gg rfl; exact this.1
          have O7 := Lib.hid hown
          have f7 := G7.out.free 7
          have c7 : w7.cell? ⟨w2.heap.size, 7, none⟩ = some v := by rw [G7.out.cell]; rfl
          clear hown hgrow hat hlt7 cM7
          go_wp2_with fail
          go_roundw
          case rel =>
            refine ⟨k + 1, .slice (some ⟨gg, 0, none⟩) (k + 1) cap, by omega, by go_num, ?_, ?_⟩
            · rw [HLQ.out]
              exact G7.out.set 7 _
            · refine ownB_keep O7.out (fun j hj => Below.heap_setCell _ _ _ _ ?_)
              have := (ownB_ge O7.out j hj).1
              show j ≠ w2.heap.size
              omega
          case measure => simp [intOf]; omega
        · have hkn : k = n := by omega
          subst hkn
          have hs9 : lq (s8 l) k = s9 l := by rw [HNN.out]; rfl
          have hlk : m.locks = locksD (s8 l) k := by rw [HM.out, HNN.out]; rfl
          have hllen : m.locks.length = k := by rw [hlk, locksD_length]
          have HO' : wr.ownsRow (w2.heap.size + 1) 101 3 v m.locks.length (lockC m.locks) := by rw [hllen, hlk]; exact HO.out
          obtain ⟨A, c, hv', hcap, hLK, hA⟩ := Locks.own HO'
          have hG := HG.out
          rw [hs9] at hG
          have HG9 := Lib.hid hG
          have HLK := Lib.hid hLK
          have hbM := HG.out.lt
          have HCAP := Lib.hid hcap
          have HA := Lib.hid hA
          have HML := Lib.hid (show m.locks.length ≤ 200 by omega)
          clear hG HG HO HO' hlk hs9 hllen hLK hcap hA HNN
          have HEND := Lib.hid (fun W (h : Rd b (s9 l).1 (s9 l).2 W) => rend_calls b (s9 l).1 (s9 l).2 W h)
          subst hv'
          have hs9l : (s9 l).1.length ≤ 9223372036854775807 := by have := s9_len l; have := HL.out; omega
          go_wp2_with fail
          refine (HEND.out _ HG9.out.1 hs9l).mono ?_
          rintro r w3 ⟨rfl, m3, rfl⟩
          have G10 := Lib.hid (HG9.out.drewN m3)
          have hee : endR (s9 l).1 (s9 l).2 = endE l := rfl
          rw [hee]
          have LK10 : Hid (Locks (wr.drewN m3) A m.locks) := HLK.out
          generalize wr.drewN m3 = w3 at G10 LK10
          clear HG9 HLK hee HEND hs9l
          have HE1 := Lib.hid (fun h => @getD_end l h)
          have HE2 := Lib.hid (fun h h2 h3 => @getD_ok l h h2 h3)
          have HE3 := Lib.hid (fun h h2 => @getD_bad l h h2)
          rw [← HM.out] at HE2 HE3
          have hep : 0 ≤ m.epoch ∧ m.epoch < 18446744073709551616 := by
            rw [HM.out]
            have : rsN (s6 l) 8 < 18446744073709551616 := rnum8_lt (s6 l).1 (s6 l).2
            exact ⟨Int.natCast_nonneg _, by show ((rsN (s6 l) 8 : Nat) : Int) < _; omega⟩
          generalize endE l = e at HE1 HE2 HE3 ⊢
          by_cases he : e = 0
          · subst he
            have HPUT := Lib.hid (fun W (hW : Locks W A m.locks) => msgPut_calls m A c W hW (by have := HML.out; omega) hep)
            have z0 : w3.cell? ⟨w2.heap.size, 0, none⟩ = some (.int .i64 m.kind) := by rw [G10.out.cell]; rfl
            have z1 : w3.cell? ⟨w2.heap.size, 1, none⟩ = some (.int .i64 m.id) := by rw [G10.out.cell]; rfl
            have z2 : w3.cell? ⟨w2.heap.size, 2, none⟩ = some (.int .i64 m.node) := by rw [G10.out.cell]; rfl
            have z3 : w3.cell? ⟨w2.heap.size, 3, none⟩ = some (.int .i64 m.gen) := by rw [G10.out.cell]; rfl
            have z4 : w3.cell? ⟨w2.heap.size, 4, none⟩ = some (.int .i64 m.stamp) := by rw [G10.out.cell]; rfl
            have z5 : w3.cell? ⟨w2.heap.size, 5, none⟩ = some (.int .u64 m.epoch) := by rw [G10.out.cell]; rfl
            have z6 : w3.cell? ⟨w2.heap.size, 6, none⟩ = some (.int .i64 m.err) := by rw [G10.out.cell]; rfl
            have z7 : w3.cell? ⟨w2.heap.size, 7, none⟩ = some (.slice A m.locks.length c) := by rw [G10.out.cell]; rfl
            clear hep
            go_wp2_with fail
            simp only [msgV] at HPUT
            refine (HPUT.out _ LK10.out).mono ?_
            rintro r w4 ⟨rfl, b4⟩
            clear z0 z1 z2 z3 z4 z5 z6 z7
            have G11 := Lib.hid (G10.out.below b4)
            have LK11 := Lib.hid (LK10.out.below b4)
            clear b4 G10 LK10 HPUT
            have HEQ : Hid (∀ EM, bstr EM = bstr l → EM = l) := fun EM h => by have := congrArg (fun b : ByteArray => b.data.toList) h; rwa [bstr_toList, bstr_toList] at this
            cases hok : msgOk m with
            | false =>
              have HD := Lib.hid (HE3.out (by trivial) (by rw [hok]; rintro ⟨h, _⟩; cases h))
              clear hok
              have x0 := G11.out.cell0 0
              have x1 := G11.out.cell0 1
              have x2 := G11.out.cell0 2
              have x3 := G11.out.cell0 3
              have x4 := G11.out.cell0 4
              have x5 := G11.out.cell0 5
              have x6 := G11.out.cell0 6
              have x7 := G11.out.cell0 7
              have y0 := G11.out.free0 0
              have y1 := G11.out.free0 1
              have y2 := G11.out.free0 2
              have y3 := G11.out.free0 3
              have y4 := G11.out.free0 4
              have y5 := G11.out.free0 5
              have y6 := G11.out.free0 6
              have y7 := G11.out.free0 7
              have hltB := lt_of_heap G11.out.2.2.1
              simp at x0 x1 x2 x3 x4 x5 x6 x7
              go_wp2_with fail
              have h8 := put8_heap (.int .i64 0) (.int .i64 0) (.int .i64 0) (.int .i64 0) (.int .i64 0) (.int .u64 0) (.int .i64 0) (.slice none 0 0) G11.out.2.2.1
              have hB8 := put8_below G11.out.2.2.2.1 (.int .i64 0) (.int .i64 0) (.int .i64 0) (.int .i64 0) (.int .i64 0) (.int .u64 0) (.int .i64 0) (.slice none 0 0)
              have hw8 : ((((((((w4.setCell ⟨w.heap.size, 0, none⟩ (.int .i64 0)).setCell ⟨w.heap.size, 1, none⟩ (.int .i64 0)).setCell ⟨w.heap.size, 2, none⟩ (.int .i64 0)).setCell ⟨w.heap.size, 3, none⟩ (.int .i64 0)).setCell ⟨w.heap.size, 4, none⟩ (.int .i64 0)).setCell ⟨w.heap.size, 5, none⟩ (.int .u64 0)).setCell ⟨w.heap.size, 6, none⟩ (.int .i64 0)).setCell ⟨w.heap.size, 7, none⟩ (.slice none 0 0)) = (put8 w4 w.heap.size (.int .i64 0) (.int .i64 0) (.int .i64 0) (.int .i64 0) (.int .i64 0) (.int .u64 0) (.int .i64 0) (.slice none 0 0)) := rfl
              rw [hw8]
              generalize (put8 w4 w.heap.size (.int .i64 0) (.int .i64 0) (.int .i64 0) (.int .i64 0) (.int .i64 0) (.int .u64 0) (.int .i64 0) (.slice none 0 0)) = W8 at h8 hB8 ⊢
              have r0 : W8.cell? ⟨w.heap.size, 0, none⟩ = some (.int .i64 0) := by rw [Lib.cell_of_heap h8]; rfl
              have r1 : W8.cell? ⟨w.heap.size, 1, none⟩ = some (.int .i64 0) := by rw [Lib.cell_of_heap h8]; rfl
              have r2 : W8.cell? ⟨w.heap.size, 2, none⟩ = some (.int .i64 0) := by rw [Lib.cell_of_heap h8]; rfl
              have r3 : W8.cell? ⟨w.heap.size, 3, none⟩ = some (.int .i64 0) := by rw [Lib.cell_of_heap h8]; rfl
              have r4 : W8.cell? ⟨w.heap.size, 4, none⟩ = some (.int .i64 0) := by rw [Lib.cell_of_heap h8]; rfl
              have r5 : W8.cell? ⟨w.heap.size, 5, none⟩ = some (.int .u64 0) := by rw [Lib.cell_of_heap h8]; rfl
              have r6 : W8.cell? ⟨w.heap.size, 6, none⟩ = some (.int .i64 0) := by rw [Lib.cell_of_heap h8]; rfl
              have r7 : W8.cell? ⟨w.heap.size, 7, none⟩ = some (.slice none 0 0) := by rw [Lib.cell_of_heap h8]; rfl
              clear x0 x1 x2 x3 x4 x5 x6 x7 y0 y1 y2 y3 y4 y5 y6 y7 hw8
              have hlt8 := lt_of_heap h8
              refine bodyPost_ret (v := .tuple #[.agg #[.int .i64 0, .int .i64 0, .int .i64 0, .int .i64 0, .int .i64 0, .int .u64 0, .int .i64 0, .slice none 0 0], .int .i64 4]) (by simp [results, Tryd.results35, go_sem, r0, r1, r2, r3, r4, r5, r6, r7, hlt8]) rfl ⟨zeroM, 4, none, 0, HD.out.symm, rfl, Locks.nil _ _, Nat.le_refl _, hB8⟩
            | true =>
              generalize hEM : encM m = EM at HE2 HE3
              by_cases hb2 : EM = l
              · have HD := Lib.hid (HE2.out (by trivial) hok hb2)
                have hbb : ((bstr EM).toList == (bstr l).toList) = true := by rw [hb2]; exact beq_self_eq_true _
                clear hok hEM hb2
                have x0 := G11.out.cell0 0
                have x1 := G11.out.cell0 1
                have x2 := G11.out.cell0 2
                have x3 := G11.out.cell0 3
                have x4 := G11.out.cell0 4
                have x5 := G11.out.cell0 5
                have x6 := G11.out.cell0 6
                have x7 := G11.out.cell0 7
                have y0 := G11.out.free0 0
                have y1 := G11.out.free0 1
                have y2 := G11.out.free0 2
                have y3 := G11.out.free0 3
                have y4 := G11.out.free0 4
                have y5 := G11.out.free0 5
                have y6 := G11.out.free0 6
                have y7 := G11.out.free0 7
                have hltB := lt_of_heap G11.out.2.2.1
                simp at x0 x1 x2 x3 x4 x5 x6 x7
                have z0 : w4.cell? ⟨w2.heap.size, 0, none⟩ = some (.int .i64 m.kind) := by rw [G11.out.cell]; rfl
                have z1 : w4.cell? ⟨w2.heap.size, 1, none⟩ = some (.int .i64 m.id) := by rw [G11.out.cell]; rfl
                have z2 : w4.cell? ⟨w2.heap.size, 2, none⟩ = some (.int .i64 m.node) := by rw [G11.out.cell]; rfl
                have z3 : w4.cell? ⟨w2.heap.size, 3, none⟩ = some (.int .i64 m.gen) := by rw [G11.out.cell]; rfl
                have z4 : w4.cell? ⟨w2.heap.size, 4, none⟩ = some (.int .i64 m.stamp) := by rw [G11.out.cell]; rfl
                have z5 : w4.cell? ⟨w2.heap.size, 5, none⟩ = some (.int .u64 m.epoch) := by rw [G11.out.cell]; rfl
                have z6 : w4.cell? ⟨w2.heap.size, 6, none⟩ = some (.int .i64 m.err) := by rw [G11.out.cell]; rfl
                have z7 : w4.cell? ⟨w2.heap.size, 7, none⟩ = some (.slice A m.locks.length c) := by rw [G11.out.cell]; rfl
                go_wp2_with fail
                have h8 := put8_heap (.int .i64 m.kind) (.int .i64 m.id) (.int .i64 m.node) (.int .i64 m.gen) (.int .i64 m.stamp) (.int .u64 m.epoch) (.int .i64 m.err) (.slice A m.locks.length c) G11.out.2.2.1
                have hB8 := put8_below G11.out.2.2.2.1 (.int .i64 m.kind) (.int .i64 m.id) (.int .i64 m.node) (.int .i64 m.gen) (.int .i64 m.stamp) (.int .u64 m.epoch) (.int .i64 m.err) (.slice A m.locks.length c)
                have hL8 := put8_locks LK11.out (fun ad had => Nat.lt_trans hbM.1 (Nat.lt_trans hbM.2.1 (HA.out ad had))) (.int .i64 m.kind) (.int .i64 m.id) (.int .i64 m.node) (.int .i64 m.gen) (.int .i64 m.stamp) (.int .u64 m.epoch) (.int .i64 m.err) (.slice A m.locks.length c)
                have hw8 : ((((((((w4.setCell ⟨w.heap.size, 0, none⟩ (.int .i64 m.kind)).setCell ⟨w.heap.size, 1, none⟩ (.int .i64 m.id)).setCell ⟨w.heap.size, 2, none⟩ (.int .i64 m.node)).setCell ⟨w.heap.size, 3, none⟩ (.int .i64 m.gen)).setCell ⟨w.heap.size, 4, none⟩ (.int .i64 m.stamp)).setCell ⟨w.heap.size, 5, none⟩ (.int .u64 m.epoch)).setCell ⟨w.heap.size, 6, none⟩ (.int .i64 m.err)).setCell ⟨w.heap.size, 7, none⟩ (.slice A m.locks.length c)) = (put8 w4 w.heap.size (.int .i64 m.kind) (.int .i64 m.id) (.int .i64 m.node) (.int .i64 m.gen) (.int .i64 m.stamp) (.int .u64 m.epoch) (.int .i64 m.err) (.slice A m.locks.length c)) := rfl
                rw [hw8]
                generalize (put8 w4 w.heap.size (.int .i64 m.kind) (.int .i64 m.id) (.int .i64 m.node) (.int .i64 m.gen) (.int .i64 m.stamp) (.int .u64 m.epoch) (.int .i64 m.err) (.slice A m.locks.length c)) = W8 at h8 hB8 hL8 ⊢
                have r0 : W8.cell? ⟨w.heap.size, 0, none⟩ = some (.int .i64 m.kind) := by rw [Lib.cell_of_heap h8]; rfl
                have r1 : W8.cell? ⟨w.heap.size, 1, none⟩ = some (.int .i64 m.id) := by rw [Lib.cell_of_heap h8]; rfl
                have r2 : W8.cell? ⟨w.heap.size, 2, none⟩ = some (.int .i64 m.node) := by rw [Lib.cell_of_heap h8]; rfl
                have r3 : W8.cell? ⟨w.heap.size, 3, none⟩ = some (.int .i64 m.gen) := by rw [Lib.cell_of_heap h8]; rfl
                have r4 : W8.cell? ⟨w.heap.size, 4, none⟩ = some (.int .i64 m.stamp) := by rw [Lib.cell_of_heap h8]; rfl
                have r5 : W8.cell? ⟨w.heap.size, 5, none⟩ = some (.int .u64 m.epoch) := by rw [Lib.cell_of_heap h8]; rfl
                have r6 : W8.cell? ⟨w.heap.size, 6, none⟩ = some (.int .i64 m.err) := by rw [Lib.cell_of_heap h8]; rfl
                have r7 : W8.cell? ⟨w.heap.size, 7, none⟩ = some (.slice A m.locks.length c) := by rw [Lib.cell_of_heap h8]; rfl
                clear x0 x1 x2 x3 x4 x5 x6 x7 y0 y1 y2 y3 y4 y5 y6 y7 hw8
                have hlt8 := lt_of_heap h8
                refine bodyPost_ret (v := .tuple #[.agg #[.int .i64 m.kind, .int .i64 m.id, .int .i64 m.node, .int .i64 m.gen, .int .i64 m.stamp, .int .u64 m.epoch, .int .i64 m.err, .slice A m.locks.length c], .int .i64 0]) (by simp [results, Tryd.results35, go_sem, r0, r1, r2, r3, r4, r5, r6, r7, hlt8]) rfl ⟨m, 0, A, c, HD.out.symm, rfl, hL8, HCAP.out, hB8⟩
              · have HD := Lib.hid (HE3.out (by trivial) (fun h => hb2 h.2))
                have hbb : ((bstr EM).toList == (bstr l).toList) = false := by
                  rw [Bool.eq_false_iff]
                  intro h
                  exact hb2 (HEQ.out EM (by have := eq_of_beq h; exact ByteArray.ext (Array.toList_inj.1 (by simpa [ByteArray.toList_eq] using this))))
                clear hok hEM hb2
                have x0 := G11.out.cell0 0
                have x1 := G11.out.cell0 1
                have x2 := G11.out.cell0 2
                have x3 := G11.out.cell0 3
                have x4 := G11.out.cell0 4
                have x5 := G11.out.cell0 5
                have x6 := G11.out.cell0 6
                have x7 := G11.out.cell0 7
                have y0 := G11.out.free0 0
                have y1 := G11.out.free0 1
                have y2 := G11.out.free0 2
                have y3 := G11.out.free0 3
                have y4 := G11.out.free0 4
                have y5 := G11.out.free0 5
                have y6 := G11.out.free0 6
                have y7 := G11.out.free0 7
                have hltB := lt_of_heap G11.out.2.2.1
                simp at x0 x1 x2 x3 x4 x5 x6 x7
                go_wp2_with fail
                have h8 := put8_heap (.int .i64 0) (.int .i64 0) (.int .i64 0) (.int .i64 0) (.int .i64 0) (.int .u64 0) (.int .i64 0) (.slice none 0 0) G11.out.2.2.1
                have hB8 := put8_below G11.out.2.2.2.1 (.int .i64 0) (.int .i64 0) (.int .i64 0) (.int .i64 0) (.int .i64 0) (.int .u64 0) (.int .i64 0) (.slice none 0 0)
                have hw8 : ((((((((w4.setCell ⟨w.heap.size, 0, none⟩ (.int .i64 0)).setCell ⟨w.heap.size, 1, none⟩ (.int .i64 0)).setCell ⟨w.heap.size, 2, none⟩ (.int .i64 0)).setCell ⟨w.heap.size, 3, none⟩ (.int .i64 0)).setCell ⟨w.heap.size, 4, none⟩ (.int .i64 0)).setCell ⟨w.heap.size, 5, none⟩ (.int .u64 0)).setCell ⟨w.heap.size, 6, none⟩ (.int .i64 0)).setCell ⟨w.heap.size, 7, none⟩ (.slice none 0 0)) = (put8 w4 w.heap.size (.int .i64 0) (.int .i64 0) (.int .i64 0) (.int .i64 0) (.int .i64 0) (.int .u64 0) (.int .i64 0) (.slice none 0 0)) := rfl
                rw [hw8]
                generalize (put8 w4 w.heap.size (.int .i64 0) (.int .i64 0) (.int .i64 0) (.int .i64 0) (.int .i64 0) (.int .u64 0) (.int .i64 0) (.slice none 0 0)) = W8 at h8 hB8 ⊢
                have r0 : W8.cell? ⟨w.heap.size, 0, none⟩ = some (.int .i64 0) := by rw [Lib.cell_of_heap h8]; rfl
                have r1 : W8.cell? ⟨w.heap.size, 1, none⟩ = some (.int .i64 0) := by rw [Lib.cell_of_heap h8]; rfl
                have r2 : W8.cell? ⟨w.heap.size, 2, none⟩ = some (.int .i64 0) := by rw [Lib.cell_of_heap h8]; rfl
                have r3 : W8.cell? ⟨w.heap.size, 3, none⟩ = some (.int .i64 0) := by rw [Lib.cell_of_heap h8]; rfl
                have r4 : W8.cell? ⟨w.heap.size, 4, none⟩ = some (.int .i64 0) := by rw [Lib.cell_of_heap h8]; rfl
                have r5 : W8.cell? ⟨w.heap.size, 5, none⟩ = some (.int .u64 0) := by rw [Lib.cell_of_heap h8]; rfl
                have r6 : W8.cell? ⟨w.heap.size, 6, none⟩ = some (.int .i64 0) := by rw [Lib.cell_of_heap h8]; rfl
                have r7 : W8.cell? ⟨w.heap.size, 7, none⟩ = some (.slice none 0 0) := by rw [Lib.cell_of_heap h8]; rfl
                clear x0 x1 x2 x3 x4 x5 x6 x7 y0 y1 y2 y3 y4 y5 y6 y7 hw8
                have hlt8 := lt_of_heap h8
                refine bodyPost_ret (v := .tuple #[.agg #[.int .i64 0, .int .i64 0, .int .i64 0, .int .i64 0, .int .i64 0, .int .u64 0, .int .i64 0, .slice none 0 0], .int .i64 4]) (by simp [results, Tryd.results35, go_sem, r0, r1, r2, r3, r4, r5, r6, r7, hlt8]) rfl ⟨zeroM, 4, none, 0, HD.out.symm, rfl, Locks.nil _ _, Nat.le_refl _, hB8⟩
          · have HD := Lib.hid (HE1.out he)
            have hb : (e != 0) = true := bne_iff_ne.2 he
            have x0 := G10.out.cell0 0
            have x1 := G10.out.cell0 1
            have x2 := G10.out.cell0 2
            have x3 := G10.out.cell0 3
            have x4 := G10.out.cell0 4
            have x5 := G10.out.cell0 5
            have x6 := G10.out.cell0 6
            have x7 := G10.out.cell0 7
            have y0 := G10.out.free0 0
            have y1 := G10.out.free0 1
            have y2 := G10.out.free0 2
            have y3 := G10.out.free0 3
            have y4 := G10.out.free0 4
            have y5 := G10.out.free0 5
            have y6 := G10.out.free0 6
            have y7 := G10.out.free0 7
            have hltB := lt_of_heap G10.out.2.2.1
            simp at x0 x1 x2 x3 x4 x5 x6 x7
            clear he hep
            go_wp2_with fail
            have h8 := put8_heap (.int .i64 0) (.int .i64 0) (.int .i64 0) (.int .i64 0) (.int .i64 0) (.int .u64 0) (.int .i64 0) (.slice none 0 0) G10.out.2.2.1
            have hB8 := put8_below G10.out.2.2.2.1 (.int .i64 0) (.int .i64 0) (.int .i64 0) (.int .i64 0) (.int .i64 0) (.int .u64 0) (.int .i64 0) (.slice none 0 0)
            have hw8 : ((((((((w3.setCell ⟨w.heap.size, 0, none⟩ (.int .i64 0)).setCell ⟨w.heap.size, 1, none⟩ (.int .i64 0)).setCell ⟨w.heap.size, 2, none⟩ (.int .i64 0)).setCell ⟨w.heap.size, 3, none⟩ (.int .i64 0)).setCell ⟨w.heap.size, 4, none⟩ (.int .i64 0)).setCell ⟨w.heap.size, 5, none⟩ (.int .u64 0)).setCell ⟨w.heap.size, 6, none⟩ (.int .i64 0)).setCell ⟨w.heap.size, 7, none⟩ (.slice none 0 0)) = (put8 w3 w.heap.size (.int .i64 0) (.int .i64 0) (.int .i64 0) (.int .i64 0) (.int .i64 0) (.int .u64 0) (.int .i64 0) (.slice none 0 0)) := rfl
            rw [hw8]
            generalize (put8 w3 w.heap.size (.int .i64 0) (.int .i64 0) (.int .i64 0) (.int .i64 0) (.int .i64 0) (.int .u64 0) (.int .i64 0) (.slice none 0 0)) = W8 at h8 hB8 ⊢
            have r0 : W8.cell? ⟨w.heap.size, 0, none⟩ = some (.int .i64 0) := by rw [Lib.cell_of_heap h8]; rfl
            have r1 : W8.cell? ⟨w.heap.size, 1, none⟩ = some (.int .i64 0) := by rw [Lib.cell_of_heap h8]; rfl
            have r2 : W8.cell? ⟨w.heap.size, 2, none⟩ = some (.int .i64 0) := by rw [Lib.cell_of_heap h8]; rfl
            have r3 : W8.cell? ⟨w.heap.size, 3, none⟩ = some (.int .i64 0) := by rw [Lib.cell_of_heap h8]; rfl
            have r4 : W8.cell? ⟨w.heap.size, 4, none⟩ = some (.int .i64 0) := by rw [Lib.cell_of_heap h8]; rfl
            have r5 : W8.cell? ⟨w.heap.size, 5, none⟩ = some (.int .u64 0) := by rw [Lib.cell_of_heap h8]; rfl
            have r6 : W8.cell? ⟨w.heap.size, 6, none⟩ = some (.int .i64 0) := by rw [Lib.cell_of_heap h8]; rfl
            have r7 : W8.cell? ⟨w.heap.size, 7, none⟩ = some (.slice none 0 0) := by rw [Lib.cell_of_heap h8]; rfl
            clear x0 x1 x2 x3 x4 x5 x6 x7 y0 y1 y2 y3 y4 y5 y6 y7 hw8
            have hlt8 := lt_of_heap h8
            refine bodyPost_ret (v := .tuple #[.agg #[.int .i64 0, .int .i64 0, .int .i64 0, .int .i64 0, .int .i64 0, .int .u64 0, .int .i64 0, .slice none 0 0], .int .i64 e]) (by simp [results, Tryd.results35, go_sem, r0, r1, r2, r3, r4, r5, r6, r7, hlt8]) rfl ⟨zeroM, e, none, 0, HD.out.symm, rfl, Locks.nil _ _, Nat.le_refl _, hB8⟩

end Go.Proofs.YtpbmclaglkcmoaaDoor
