import Derived.Test.YtpbmclaglkcmoaaRecRow
import Derived.BigQuiet
namespace Go.Proofs.Ytpbmclaglkcmoaa
open Go.RowKit
set_option linter.unusedVariables false
set_option linter.unusedSimpArgs false

def RecGood (w : World) (r : RecV) : Prop := RecIn w r ∧ ValidR r.e r.l r.im

theorem flatR_snoc (l : List RecV) (r : RecV) : flatR (l ++ [r]) = flatR l ++ recL r.e r.l r.im := by unfold flatR; simp
theorem flatR_cons (l : List RecV) (r : RecV) : flatR (r :: l) = recL r.e r.l r.im ++ flatR l := by unfold flatR; simp
theorem RecIn.ok {w : World} {r : RecV} (h : RecIn w r) : RecOk r.e r.l r.im := by
  have h1 := Go.bounds_u64 h.1
  have h2 := Go.bounds_u64 h.2.1
  refine ⟨h1.1, by omega, h2.1, by omega, fun x hx => ?_⟩
  have h3 := Go.bounds_u64 (h.2.2.2.2.2 x hx).2.1
  exact ⟨h3.1, by omega⟩
theorem RecIn.small {w : World} {r : RecV} (h : RecIn w r) : r.im.length ≤ r.c ∧ r.c ≤ 9223372036854775807 ∧ ∀ x ∈ r.im, x.d.size ≤ 9223372036854775807 := by
  refine ⟨h.2.2.1, by simpa only [maxLen] using h.2.2.2.1, fun x hx => ?_⟩
  have := (h.2.2.2.2.2 x hx).2.2
  simpa only [maxLen] using this

set_option maxRecDepth 100000 in
/-- SameImages of equal lists only draws. -/
theorem same_draws (A B : Option Addr) (c c' : Nat) (im : List Img) (w : World) (hI : Imgs w A im) (hJ : Imgs w B im) (hc : im.length ≤ c) (hc' : im.length ≤ c') (hm : im.length ≤ 9223372036854775807) :
    Calls Try.prog 44 #[.slice A im.length c, .slice B im.length c'] w fun r w' => r = .returned (.bool true) ∧ ∃ m, w' = w.drewN m := by
  have HI := Lib.hid hI
  have HJ := Lib.hid hJ
  clear hI hJ
  go_enter Try.func44, Try.ntmps44
  go_wp2_with fail
  go_loopw [5] (fun s5 wr => ∃ k : Nat, k ≤ im.length ∧ s5 = .int .i64 k ∧ ∃ m, wr = w.drewN m) (fun s5 _ => im.length - (intOf s5).toNat)
  case atStart => exact ⟨0, Nat.zero_le _, rfl, 0, rfl⟩
  case round =>
    obtain ⟨k, hk, rfl, m, rfl⟩ := hrel
    by_cases hlt : k < im.length
    · obtain ⟨ib, io, hA, c0, c1, c2⟩ := HI.out k hlt
      obtain ⟨jb, jo, hB, d0, d1, d2⟩ := HJ.out k hlt
      subst hA hB
      generalize im[k] = x at c0 c1 c2 d0 d1 d2
      have c0' : (w.drewN m).cell? ⟨ib, io + k * 3, none⟩ = some (.int .i64 x.b) := c0
      have c1' : (w.drewN m).cell? ⟨ib, io + k * 3 + 1, none⟩ = some (.int .u64 x.v) := c1
      have c2' : (w.drewN m).cell? ⟨ib, io + k * 3 + 2, none⟩ = some (.string x.d) := c2
      have d0' : (w.drewN m).cell? ⟨jb, jo + k * 3, none⟩ = some (.int .i64 x.b) := d0
      have d1' : (w.drewN m).cell? ⟨jb, jo + k * 3 + 1, none⟩ = some (.int .u64 x.v) := d1
      have d2' : (w.drewN m).cell? ⟨jb, jo + k * 3 + 2, none⟩ = some (.string x.d) := d2
      go_wp2_with fail
      go_region_held3 (fun w' => w'.cell? ⟨ib, io + k * 3, none⟩ = some (.int .i64 x.b) ∧ w'.cell? ⟨ib, io + k * 3 + 1, none⟩ = some (.int .u64 x.v) ∧ w'.cell? ⟨ib, io + k * 3 + 2, none⟩ = some (.string x.d) ∧ w'.cell? ⟨jb, jo + k * 3, none⟩ = some (.int .i64 x.b) ∧ w'.cell? ⟨jb, jo + k * 3 + 1, none⟩ = some (.int .u64 x.v) ∧ w'.cell? ⟨jb, jo + k * 3 + 2, none⟩ = some (.string x.d)) (go_keep) (fail)
      clear c0 c1 c2 d0 d1 d2 c0' c1' c2' d0' d1' d2'
      go_wp2
      go_roundw
      case rel => exact ⟨k + 1, by omega, by go_num, m + 1, rfl⟩
      case measure => simp [intOf]; omega
    · clear HI HJ
      go_wp2
      go_ret
      exact ⟨rfl, m, rfl⟩

theorem get_putI (e l : Int) (im : List Img) (more : List UInt8) (W : World) (hv : ValidR e l im) (hk : RecOk e l im) (hm : more.length ≤ 900000) :
    Calls Try.prog 42 #[.string (bstr (recL e l im ++ more))] W fun r w' => ∃ (A : Option Addr) (c : Nat), r = .returned (.tuple #[.agg #[.int .u64 e, .int .u64 l, .slice A im.length c], .int .i64 (sN im.length), .int .i64 0]) ∧ im.length ≤ c ∧ Imgs w' A im ∧ Below W.heap.size W w' := by
  obtain ⟨E, rfl⟩ := Int.eq_ofNat_of_zero_le hk.1
  obtain ⟨L, rfl⟩ := Int.eq_ofNat_of_zero_le hk.2.2.1
  exact get_put E L im more W hv hk hm

set_option maxHeartbeats 8000000 in
set_option maxRecDepth 100000 in
theorem recRow_calls (A : Option Addr) (c : Nat) (rl : List RecV) (w : World) (hc : rl.length ≤ c) (hm : c ≤ maxLen) (hI : Recs w A rl) (hr : ∀ x ∈ rl, RecIn w x) :
    Calls Try.prog 14 #[.slice A rl.length c] w fun r w' => r = .returned (.bool true) ∧ Below w.heap.size w w' := by
  by_cases h8 : 8 < rl.length
  · have h8' : (8 : Int) < (rl.length : Int) := by omega
    go_enter Try.func14, Try.ntmps14
    go_wp2_with fail
    refine (recAlive_calls _).mono ?_
    rintro r w1 ⟨rfl, hb⟩
    go_wp2
    go_ret
    exact ⟨rfl, hb⟩
  have h8' : (rl.length : Int) ≤ 8 := by omega
  have HI := Lib.hid hI
  have HR := Lib.hid hr
  clear hI hr h8
  go_enter Try.func14, Try.ntmps14
  go_wp2_with fail
  go_loopw [3, 4, 5] (fun s3 s4 s5 wr => ∃ (k : Nat) (gl : List RecV), k ≤ rl.length ∧ s5 = .int .i64 k ∧ s3 = .string (bstr (flatR gl)) ∧ (flatR gl).length ≤ 9920 * k ∧ gl.length ≤ k ∧ Hid (wr.ownsRow w.heap.size 64 3 s4 gl.length (recC gl)) ∧ Hid (∀ x ∈ gl, RecGood w x) ∧ Hid (Below w.heap.size w wr)) (fun _ _ s5 _ => rl.length - (intOf s5).toNat)
  case atStart => exact ⟨0, [], Nat.zero_le _, rfl, rfl, Nat.zero_le _, Nat.le_refl _, World.ownsRow_nil w _ _ _, (fun x hx => by cases hx), Below.refl _ _⟩
  case round =>
    obtain ⟨k, gl, hk, rfl, rfl, hfl, hgl, HO, HG, HK⟩ := hrel
    by_cases hlt : k < rl.length
    · obtain ⟨ib, io, hA, c0, c1, c2⟩ := (HI.out.below HK.out) k hlt
      subst hA
      have hin := HR.out rl[k] (List.getElem_mem hlt)
      generalize rl[k] = r at c0 c1 c2 hin
      obtain ⟨hs1, hs2, hs3⟩ := hin.small
      have HIN := Lib.hid hin
      have HIM := Lib.hid (hin.2.2.2.2.1.below HK.out)
      have HLI := Lib.hid (light_calls 20 2500 r.A r.c r.im wr HIM.out hs1 (by omega) hs3 (by omega) (by omega) (by omega))
      have hbr := World.block_lt_of_cell? _ _ c0
      have hibw : ib < wr.heap.size := hbr
      clear hin hs3 hbr
      go_wp2_with fail
      refine HLI.out.mono ?_
      rintro rr w1 ⟨b, hlp, rfl, hb1⟩
      have HB1 := Lib.hid (bl HK.out hb1)
      cases b with
      | false =>
        clear hlp hb1 c0 c1 c2
        go_wp2_with fail
        refine (recAlive_calls _).mono ?_
        rintro rr w2 ⟨rfl, hb⟩
        go_wp2
        go_ret
        exact ⟨rfl, bl HB1.out hb⟩
      | true =>
        obtain ⟨hl20, _⟩ := hlp rfl
        have hl20' : r.im.length ≤ 20 := by omega
        have d0 := (hb1.cell (p := ⟨ib, io + k * 3, none⟩) hibw).trans c0
        have d1 := (hb1.cell (p := ⟨ib, io + k * 3 + 1, none⟩) hibw).trans c1
        have d2 := (hb1.cell (p := ⟨ib, io + k * 3 + 2, none⟩) hibw).trans c2
        have HP := Lib.hid (put_any r.e r.l r.A r.c r.im w1 (HIM.out.below hb1) (by omega) hs1 HIN.out.ok)
        have hibw1 : ib < w1.heap.size := Nat.lt_of_lt_of_le hibw hb1.size
        have HO1 := Lib.hid (ownB_below HO.out hb1)
        clear hlp hb1 c0 c1 c2 hl20
        go_wp2_with fail
        refine HP.out.mono ?_
        rintro rr w2 ⟨q, cc, rfl, hb2, hcc, hv, hnv⟩
        have HB2 := Lib.hid (bl HB1.out hb2)
        have HO2 := Lib.hid (ownB_below HO1.out hb2)
        have e0 := (hb2.cell (p := ⟨ib, io + k * 3, none⟩) hibw1).trans d0
        have e1 := (hb2.cell (p := ⟨ib, io + k * 3 + 1, none⟩) hibw1).trans d1
        have e2 := (hb2.cell (p := ⟨ib, io + k * 3 + 2, none⟩) hibw1).trans d2
        clear d0 d1 d2 hb2
        by_cases hV : ValidR r.e r.l r.im
        case neg =>
          have hc0 : cc ≠ 0 := fun h => hV (hcc.1 h)
          have hc1 : (cc == 0) = false := beq_eq_false_iff_ne.2 hc0
          clear hcc hv hnv hV hc0 e0 e1 e2
          go_wp2
          go_roundw
          case rel => exact ⟨k + 1, gl, by omega, by go_num, rfl, by omega, by omega, HO2.out, HG.out, HB2.out⟩
          case measure => simp [intOf]; omega
        have hc0 := hcc.2 hV
        have hq := hv hV
        subst hc0 hq
        have hrl := recL_length r.e r.l r.im
        have hsl := sN_le r.im.length (by omega)
        have hrl' : (bstr (recL r.e r.l r.im)).size ≤ 9920 := by rw [bstr_size, hrl]; omega
        have hfs : (bstr (flatR gl)).size ≤ 9920 * k := hfl
        have hfit : ¬ 9223372036854775807 < (bstr (flatR gl)).size + (bstr (recL r.e r.l r.im)).size := by omega
        have HCAT : Hid (bstr (flatR gl) ++ bstr (recL r.e r.l r.im) = bstr (flatR (gl ++ [r]))) := by
          show _ = _
          rw [flatR_snoc, bapp2]
          rfl
        have HFL : Hid ((flatR (gl ++ [r])).length ≤ 9920 * (k + 1)) := by
          show _ ≤ _
          rw [flatR_snoc, List.length_append, hrl]
          omega
        have HGG : Hid (∀ x ∈ gl ++ [r], RecGood w x) := by
          intro x hx
          rcases List.mem_append.1 hx with h | h
          · exact HG.out x h
          · rw [List.mem_singleton.1 h]
            exact ⟨HIN.out, hV⟩
        have HSN := Lib.hid (recC_snoc r gl)
        obtain ⟨i0, hi', hz0, hz1, hz2⟩ := info_parts Try.infoRec
        clear hcc hv hnv hV hrl hsl
        generalize bstr (recL r.e r.l r.im) = sr at hrl' hfit HCAT
        have hwB := HB2.out.size
        go_wp2_with (at_builtin; refine wpList_append_lies _ rfl _ _ _ rfl w.heap.size 64 i0 _ 3 40 Try.underlying79 hi' hz0 hz1 hz2 rfl (by omega) _ gl.length (recC gl) rfl (HO2.out.alloc _) ⟨w2.heap.size, 0, none⟩ 1 1 [.int .u64 r.e, .int .u64 r.l, .slice r.A r.im.length r.c] rfl rfl (World.news_of_block (cs := #[.int .u64 r.e, .int .u64 r.l, .slice r.A r.im.length r.c]) (t := 64) (fr := (0, 0)) (heap_alloc_new w2 _)) (by simp [Value.oneCell']) (by omega) (by simp only [maxLen]; omega) (by omega) (by simp; omega) _ rfl ?_)
        intro gg cap w3 hown hgrow hat hlt3
        rw [← HSN.out] at hown
        have O3 : Hid (w3.ownsRow w.heap.size 64 3 (.slice (some ⟨gg, 0, none⟩) (gl.length + 1) cap) (gl ++ [r]).length (recC (gl ++ [r]))) := by
          rw [List.length_append]
          exact hown
        have K3 : Hid (Below w.heap.size w w3) := (al HB2.out _).grown hgrow (by simp; omega) (fun j hj => (ownB_ge HO2.out j hj).1)
        clear hown hgrow hat hlt3 e0 e1 e2
        go_wp2
        go_roundw
        case rel => exact ⟨k + 1, gl ++ [r], by omega, by go_num, congrArg Value.string HCAT.out, HFL.out, by rw [List.length_append]; show gl.length + 1 ≤ k + 1; omega, O3.out, HGG.out, K3.out⟩
        case measure => simp [intOf]; omega
    · obtain ⟨Ag, cg, hgv, hgc, hRg⟩ := Recs.own HO.out
      have hown := HO.out
      subst hgv
      have HRG := Lib.hid hRg
      have hg8 : gl.length ≤ 8 := by omega
      have hfl8 : (flatR gl).length ≤ 79360 := by omega
      clear hRg HO hown
      go_wp2_with fail
      obtain ⟨wo, hwo⟩ : ∃ wo, wo = wr := ⟨_, rfl⟩
      subst hwo
      go_loopw [3, 8] (fun s3 s8 wz => ∃ j : Nat, j ≤ gl.length ∧ s8 = .int .i64 j ∧ s3 = .string (bstr (flatR (gl.drop j))) ∧ (flatR (gl.drop j)).length ≤ 79360 ∧ Hid (Below wo.heap.size wo wz)) (fun _ s8 _ => gl.length - (intOf s8).toNat)
      case atStart => exact ⟨0, Nat.zero_le _, rfl, rfl, by rw [List.drop_zero]; exact hfl8, Below.refl _ _⟩
      case round =>
        obtain ⟨j, hj, rfl, rfl, hbl, HZ⟩ := hrel
        by_cases hlt2 : j < gl.length
        · obtain ⟨gb, go, hAg, c0, c1, c2⟩ := (HRG.out.below HZ.out) j hlt2
          subst hAg
          have hgood := HG.out gl[j] (List.getElem_mem hlt2)
          have hdrop : flatR (gl.drop j) = recL gl[j].e gl[j].l gl[j].im ++ flatR (gl.drop (j + 1)) := by
            rw [List.drop_eq_getElem_cons hlt2, flatR_cons]
          generalize gl[j] = r at c0 c1 c2 hgood hdrop
          have hrest : (flatR (gl.drop (j + 1))).length ≤ 79360 := by
            have := congrArg List.length hdrop
            rw [List.length_append] at this
            omega
          obtain ⟨hs1, hs2, hs3⟩ := hgood.1.small
          have hn60 : r.im.length ≤ 60 := hgood.2.2.2.2.2
          have hrl := recL_length r.e r.l r.im
          have hsl := sN_le r.im.length hn60
          have HGE := Lib.hid (fun W => get_putI r.e r.l r.im (flatR (gl.drop (j + 1))) W hgood.2 hgood.1.ok (by omega))
          have HIM := Lib.hid ((hgood.1.2.2.2.2.1.below HK.out).below HZ.out)
          obtain ⟨S, hS⟩ : ∃ S, S = sN r.im.length := ⟨_, rfl⟩
          rw [← hS] at hrl hsl HGE
          have hex : (bstr (recL r.e r.l r.im ++ flatR (gl.drop (j + 1)))).extract (64 * S) (bstr (recL r.e r.l r.im ++ flatR (gl.drop (j + 1)))).size = bstr (flatR (gl.drop (j + 1))) := by
            refine bstr_eq _ _ ?_
            rw [ext_drop, bstr_toList]
            exact List.drop_left' hrl
          have hbs : (bstr (recL r.e r.l r.im ++ flatR (gl.drop (j + 1)))).size = 64 * S + (flatR (gl.drop (j + 1))).length := by rw [bstr_size, List.length_append, hrl]
          rw [hdrop]
          generalize bstr (recL r.e r.l r.im ++ flatR (gl.drop (j + 1))) = B at hex hbs HGE
          have HR1 := Lib.hid hrest
          have HEX : Hid (B.extract (64 * S) (64 * S + (flatR (gl.drop (j + 1))).length) = bstr (flatR (gl.drop (j + 1)))) := by
            show _ = _
            rw [← hbs]
            exact hex
          have hT : (64 * (S : Int)) ≤ (B.size : Int) := by omega
          have hT0 : (0 : Int) ≤ 64 * (S : Int) := by omega
          have HSAME := Lib.hid (fun W (A1 : Option Addr) (c1 : Nat) (h1 : Imgs W A1 r.im) (h2 : Imgs W r.A r.im) (h3 : r.im.length ≤ c1) => same_draws A1 r.A c1 r.c r.im W h1 h2 h3 hs1 (by omega))
          have hgbw := World.block_lt_of_cell? _ _ c0
          clear hS hs3 hgood hdrop hbl hrl hrest
          go_wp2_with fail
          refine (HGE.out _).mono ?_
          rintro rr w3 ⟨A1, k1, rfl, hk1, hI1, hb3⟩
          have d0 := (hb3.cell (p := ⟨gb, go + j * 3, none⟩) hgbw).trans c0
          have d1 := (hb3.cell (p := ⟨gb, go + j * 3 + 1, none⟩) hgbw).trans c1
          have d2 := (hb3.cell (p := ⟨gb, go + j * 3 + 2, none⟩) hgbw).trans c2
          have hgb3 : gb < w3.heap.size := Nat.lt_of_lt_of_le hgbw hb3.size
          have hall : Below w3.heap.size w3 (w3.alloc (.cells #[.int .u64 r.e, .int .u64 r.l, .slice A1 r.im.length k1] 64)) := al (Below.refl _ _) _
          have HJ3 := Lib.hid (hI1.below hall)
          have HI3 := Lib.hid ((HIM.out.below hb3).below hall)
          have K3 := Lib.hid (bl (bl HZ.out hb3) hall)
          have gx := heap_alloc_new w3 (.cells #[.int .u64 r.e, .int .u64 r.l, .slice A1 r.im.length k1] 64)
          have hHc := (hall.cell (p := ⟨gb, go + j * 3, none⟩) hgb3).trans d0
          have hHd := (hall.cell (p := ⟨gb, go + j * 3 + 1, none⟩) hgb3).trans d1
          have hHe := (hall.cell (p := ⟨gb, go + j * 3 + 2, none⟩) hgb3).trans d2
          obtain ⟨X, hX⟩ : ∃ X, X = w3.heap.size := ⟨_, rfl⟩
          clear c0 c1 c2 hb3 hI1 hall d0 d1 d2
          go_wp2_with fail
          rw [← hX] at gx ⊢
          generalize w3.alloc (.cells #[.int .u64 r.e, .int .u64 r.l, .slice A1 r.im.length k1] 64) = W4 at gx hHc hHd hHe HJ3 HI3 K3 ⊢
          have x0 : W4.cell? ⟨X, 0, none⟩ = some (.int .u64 r.e) := by rw [Lib.cell_of_heap gx]; rfl
          have x1 : W4.cell? ⟨X, 1, none⟩ = some (.int .u64 r.l) := by rw [Lib.cell_of_heap gx]; rfl
          have x2 : W4.cell? ⟨X, 2, none⟩ = some (.slice A1 r.im.length k1) := by rw [Lib.cell_of_heap gx]; rfl
          clear gx hX
          go_quiet ((go_at_call 44; exact Calls.quiet_of (HSAME.out _ A1 k1 HJ3.out HI3.out hk1)))
          have K4 := Lib.hid (drN K3.out nq)
          clear HJ3 HI3 K3 hHc hHd hHe x0 x1 x2
          go_wp2
          go_roundw
          case rel => exact ⟨j + 1, by omega, by go_num, congrArg Value.string HEX.out, HR1.out, K4.out⟩
          case measure => simp [intOf]; omega
        · have hd : gl.drop j = [] := List.drop_eq_nil_of_le (by omega)
          have HB := Lib.hid (bl HK.out HZ.out)
          rw [hd]
          have he : bstr (flatR []) = { data := #[] } := rfl
          rw [he]
          clear hd he hbl
          go_wp2_with fail
          refine (recAlive_calls _).mono ?_
          rintro rr w3 ⟨rfl, hb⟩
          go_wp2
          go_ret
          exact ⟨rfl, bl HB.out hb⟩

end Go.Proofs.Ytpbmclaglkcmoaa
