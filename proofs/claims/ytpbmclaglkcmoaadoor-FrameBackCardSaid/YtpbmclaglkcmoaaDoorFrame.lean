import Derived.Test.YtpbmclaglkcmoaaDoorFrCrc
import Derived.Test.YtpbmclaglkcmoaaDoorWireR
import Derived.Test.YtpbmclaglkcmoaaDoorSessM
namespace Go.Proofs.YtpbmclaglkcmoaaDoor
open Go.RowKit
set_option linter.unusedVariables false
set_option linter.unusedSimpArgs false

/-! Frames as bytes: the plain law. -/
def okF (f : Fr) : Prop := (0 ≤ f.fr ∧ 0 ≤ f.to ∧ 0 ≤ f.mine ∧ 0 ≤ f.yours ∧ 0 ≤ f.seq ∧ 0 ≤ f.ack) ∧ (f.fr ≤ 65535 ∧ f.to ≤ 65535)
instance (f : Fr) : Decidable (okF f) := by unfold okF; infer_instance
def wrongF (f : Fr) : Int := if okF f then (if 3000 < f.data.size then 2 else 0) else 1
def encF (f : Fr) : List UInt8 := leB 2 f.fr ++ (leB 2 f.to ++ (leB 8 f.mine ++ (leB 8 f.yours ++ (leB 8 f.seq ++ (leB 8 f.ack ++ (leB 1 (if f.has then 1 else 0) ++ (leB 2 f.data.size ++ f.data.data.toList)))))))
def putF (f : Fr) : ByteArray × Int := if wrongF f = 0 then (bstr (seal4 (encF f) ++ encF f), 0) else (bstr [], wrongF f)

theorem wrongF_zero {f : Fr} (h : wrongF f = 0) : okF f ∧ f.data.size ≤ 3000 := by
  unfold wrongF at h
  split at h
  · split at h
    · omega
    · exact ⟨‹_›, by omega⟩
  · omega

def fN (s : List UInt8 × Int) (k : Int) : Int := wrap64 ((rnumR s.1 s.2 k).1 : Int)
def fS (s : List UInt8 × Int) (k : Int) : List UInt8 × Int := (rnumR s.1 s.2 k).2
def q1 (l : List UInt8) := fS (l, 0) 2
def q2 (l : List UInt8) := fS (q1 l) 2
def q3 (l : List UInt8) := fS (q2 l) 8
def q4 (l : List UInt8) := fS (q3 l) 8
def q5 (l : List UInt8) := fS (q4 l) 8
def q6 (l : List UInt8) := fS (q5 l) 8
def q7 (l : List UInt8) := (flagR (q6 l).1 (q6 l).2).2
def q8 (l : List UInt8) := (rtextR (q7 l).1 (q7 l).2 3000).2
def rawF (l : List UInt8) : Fr := ⟨fN (l, 0) 2, fN (q1 l) 2, fN (q2 l) 8, fN (q3 l) 8, fN (q4 l) 8, fN (q5 l) 8, bstr (rtextR (q7 l).1 (q7 l).2 3000).1, (flagR (q6 l).1 (q6 l).2).1⟩
def endF (l : List UInt8) : Int := endR (q8 l).1 (q8 l).2
def zeroF : Fr := ⟨0, 0, 0, 0, 0, 0, ByteArray.empty, false⟩
def againF (b : ByteArray) (f : Fr) : Bool := decide ((putF f).2 = 0) && decide ((putF f).1 = b)
def getF (b : ByteArray) : Fr × Int :=
  if (openB b.data.toList).2 ≠ 0 then (zeroF, (openB b.data.toList).2)
  else if endF (openB b.data.toList).1 ≠ 0 then (zeroF, endF (openB b.data.toList).1)
  else if againF b (rawF (openB b.data.toList).1) = true then (rawF (openB b.data.toList).1, 0) else (zeroF, 4)

theorem fn_le (n : Nat) (v : Int) (rest : List UInt8) (h1 : 1 ≤ n) (h8 : n ≤ 8) (h0 : 0 ≤ v) (hv : v < 256 ^ n) (hm : v ≤ 9223372036854775807) : fN (leB n v ++ rest, 0) n = v ∧ fS (leB n v ++ rest, 0) n = (rest, 0) := by
  unfold fN fS
  simp only [rnum_le n v rest h1 h8 h0 hv]
  refine ⟨?_, trivial⟩
  rw [Int.toNat_of_nonneg h0]
  unfold wrap64
  omega
theorem ftext_le (t : List UInt8) (ht : t.length ≤ 3000) : rtextR (leB 2 t.length ++ t) 0 3000 = (t, [], 0) := by
  have hr : wrongR 3000 = 0 := by decide
  have hn := rnum_le 2 t.length t (by decide) (by decide) (by omega) (by show (t.length : Int) < 65536; omega)
  have hc : countR (leB 2 t.length ++ t) 0 3000 = (t.length, t, 0) := by
    unfold countR
    have hn' : rnumR (leB 2 t.length ++ t) 0 2 = (t.length, t, 0) := hn
    rw [hn', if_neg (fun h => by have := h.2; simp only at this; omega)]
  unfold rtextR
  rw [if_neg (by simpa using hr), hc]
  simp [takeR]
theorem fflag_le (f : Bool) (rest : List UInt8) : flagR (leB 1 (if f then 1 else 0) ++ rest) 0 = (f, rest, 0) := by
  have hn := rnum_le 1 (if f then 1 else 0) rest (by decide) (by decide) (by cases f <;> decide) (by cases f <;> decide)
  unfold flagR
  have hn' : rnumR (leB 1 (if f then 1 else 0) ++ rest) 0 1 = ((if f then 1 else 0 : Int).toNat, rest, 0) := hn
  rw [hn']
  cases f <;> rfl

theorem openB_seal (l : List UInt8) : openB (seal4 l ++ l) = (l, 0) := by
  have h4 := seal4_length l
  unfold openB
  rw [if_neg (by simp; omega), List.take_left' h4, List.drop_left' h4, if_pos rfl]

def intsF (f : Fr) : Prop := f.mine ≤ 9223372036854775807 ∧ f.yours ≤ 9223372036854775807 ∧ f.seq ≤ 9223372036854775807 ∧ f.ack ≤ 9223372036854775807

theorem raw_encF (f : Fr) (h : wrongF f = 0) (hi : intsF f) : rawF (encF f) = f ∧ endF (encF f) = 0 := by
  obtain ⟨⟨⟨a0, a1, a2, a3, a4, a5⟩, b0, b1⟩, hd⟩ := wrongF_zero h
  obtain ⟨c2, c3, c4, c5⟩ := hi
  clear h
  have hsz : f.data.data.toList.length = f.data.size := toList_length _
  obtain ⟨i1, j1⟩ := fn_le 2 f.fr (leB 2 f.to ++ (leB 8 f.mine ++ (leB 8 f.yours ++ (leB 8 f.seq ++ (leB 8 f.ack ++ (leB 1 (if f.has then 1 else 0) ++ (leB 2 f.data.size ++ f.data.data.toList))))))) (by decide) (by decide) a0 (by show f.fr < 65536; omega) (by omega)
  obtain ⟨i2, j2⟩ := fn_le 2 f.to (leB 8 f.mine ++ (leB 8 f.yours ++ (leB 8 f.seq ++ (leB 8 f.ack ++ (leB 1 (if f.has then 1 else 0) ++ (leB 2 f.data.size ++ f.data.data.toList)))))) (by decide) (by decide) a1 (by show f.to < 65536; omega) (by omega)
  obtain ⟨i3, j3⟩ := fn_le 8 f.mine (leB 8 f.yours ++ (leB 8 f.seq ++ (leB 8 f.ack ++ (leB 1 (if f.has then 1 else 0) ++ (leB 2 f.data.size ++ f.data.data.toList))))) (by decide) (by decide) a2 (by show f.mine < 18446744073709551616; omega) c2
  obtain ⟨i4, j4⟩ := fn_le 8 f.yours (leB 8 f.seq ++ (leB 8 f.ack ++ (leB 1 (if f.has then 1 else 0) ++ (leB 2 f.data.size ++ f.data.data.toList)))) (by decide) (by decide) a3 (by show f.yours < 18446744073709551616; omega) c3
  obtain ⟨i5, j5⟩ := fn_le 8 f.seq (leB 8 f.ack ++ (leB 1 (if f.has then 1 else 0) ++ (leB 2 f.data.size ++ f.data.data.toList))) (by decide) (by decide) a4 (by show f.seq < 18446744073709551616; omega) c4
  obtain ⟨i6, j6⟩ := fn_le 8 f.ack (leB 1 (if f.has then 1 else 0) ++ (leB 2 f.data.size ++ f.data.data.toList)) (by decide) (by decide) a5 (by show f.ack < 18446744073709551616; omega) c5
  have i7 := fflag_le f.has (leB 2 f.data.size ++ f.data.data.toList)
  have i8 := ftext_le f.data.data.toList (by omega)
  rw [hsz] at i8
  have e1 : q1 (encF f) = _ := j1
  have e2 := show q2 (encF f) = fS (q1 (encF f)) 2 from rfl
  rw [e1] at e2
  replace e2 := e2.trans j2
  have e3 := show q3 (encF f) = fS (q2 (encF f)) 8 from rfl
  rw [e2] at e3
  replace e3 := e3.trans j3
  have e4 := show q4 (encF f) = fS (q3 (encF f)) 8 from rfl
  rw [e3] at e4
  replace e4 := e4.trans j4
  have e5 := show q5 (encF f) = fS (q4 (encF f)) 8 from rfl
  rw [e4] at e5
  replace e5 := e5.trans j5
  have e6 := show q6 (encF f) = fS (q5 (encF f)) 8 from rfl
  rw [e5] at e6
  replace e6 := e6.trans j6
  have e7 : q7 (encF f) = (leB 2 f.data.size ++ f.data.data.toList, 0) := by unfold q7; rw [e6]; exact congrArg (fun q : Bool × List UInt8 × Int => q.2) i7
  have e8 : q8 (encF f) = ([], 0) := by unfold q8; rw [e7]; exact congrArg (fun q : List UInt8 × List UInt8 × Int => q.2) i8
  constructor
  · unfold rawF
    rw [e1, e2, e3, e4, e5, e6, e7]
    have k1 : fN (encF f, 0) 2 = f.fr := i1
    have k2 : (flagR (leB 1 (if f.has then 1 else 0) ++ (leB 2 f.data.size ++ f.data.data.toList)) 0).1 = f.has := by rw [i7]
    have k3 : (rtextR (leB 2 f.data.size ++ f.data.data.toList) 0 3000).1 = f.data.data.toList := by rw [i8]
    have k4 : bstr f.data.data.toList = f.data := rfl
    simp only [k1, k2, k3, k4]
    obtain ⟨x0, x1, x2, x3, x4, x5, x6, x7⟩ := f
    simp only at i2 i3 i4 i5 i6
    simp only [Fr.mk.injEq]
    exact ⟨trivial, i2, i3, i4, i5, i6, trivial, trivial⟩
  · unfold endF
    rw [e8]
    rfl

theorem get_putF (f : Fr) (h : (putF f).2 = 0) (hi : intsF f) : getF (putF f).1 = (f, 0) := by
  have hw : wrongF f = 0 := by
    unfold putF at h
    split at h
    · assumption
    · exact absurd h (by assumption)
  have hp : putF f = (bstr (seal4 (encF f) ++ encF f), 0) := if_pos hw
  obtain ⟨h1, h2⟩ := raw_encF f hw hi
  have ho : openB (putF f).1.data.toList = (encF f, 0) := by
    rw [hp]
    show openB (seal4 (encF f) ++ encF f) = _
    exact openB_seal _
  unfold getF
  rw [ho, if_neg (by simp)]
  simp only
  rw [h2, if_neg (by simp), h1]
  rw [if_pos]
  unfold againF
  rw [h]
  simp

theorem enc_split (f : Fr) : ∃ a : List UInt8, encF f = a ++ (leB 2 f.data.size ++ f.data.data.toList) ∧ a.length = 37 :=
  ⟨leB 2 f.fr ++ (leB 2 f.to ++ (leB 8 f.mine ++ (leB 8 f.yours ++ (leB 8 f.seq ++ (leB 8 f.ack ++ leB 1 (if f.has then 1 else 0)))))), by simp [encF, List.append_assoc], by simp [leB_length]⟩
theorem enc_len (f : Fr) : (encF f).length = 39 + f.data.size := by
  obtain ⟨a, e, h⟩ := enc_split f
  have := toList_length f.data
  rw [e, List.length_append, List.length_append, leB_length, h]
  omega

/-- What is got is put as it was. -/
theorem get_is {b : ByteArray} (h : (getF b).2 = 0) : (putF (getF b).1).2 = 0 ∧ (putF (getF b).1).1 = b := by
  unfold getF at h ⊢
  split at h
  · exact absurd h (by assumption)
  · split at h
    · exact absurd h (by assumption)
    · split at h
      · rename_i h1 h2 h3
        rw [if_neg h1, if_neg h2, if_pos h3]
        unfold againF at h3
        simp only [Bool.and_eq_true, decide_eq_true_eq] at h3
        exact h3
      · simp at h

/-- A frame's bytes, cut by one, are none. -/
theorem get_cut (f : Fr) (h : wrongF f = 0) (b : ByteArray) (hb : b.data.toList = (seal4 (encF f) ++ encF f).dropLast) : (getF b).2 ≠ 0 := by
  intro hg
  obtain ⟨h1, h2⟩ := get_is hg
  generalize (getF b).1 = x at h1 h2
  have hw : wrongF x = 0 := by
    unfold putF at h1
    split at h1
    · assumption
    · exact absurd h1 (by assumption)
  have hp : putF x = (bstr (seal4 (encF x) ++ encF x), 0) := if_pos hw
  rw [hp] at h2
  have h3 : seal4 (encF x) ++ encF x = (seal4 (encF f) ++ encF f).dropLast := by rw [← hb, ← h2]; rfl
  have l1 := enc_len f
  have l2 := enc_len x
  have s1 := seal4_length (encF f)
  have s2 := seal4_length (encF x)
  have hlen := congrArg List.length h3
  simp only [List.length_append, List.length_dropLast, s1, s2, l1, l2] at hlen
  have h4 : encF x = (encF f).dropLast := by
    have := congrArg (List.drop 4) h3
    rw [List.drop_left' s2, List.dropLast_append_of_ne_nil (by intro e; rw [e] at l1; simp only [List.length_nil] at l1; omega), List.drop_left' s1] at this
    exact this
  obtain ⟨a, ea, la⟩ := enc_split f
  obtain ⟨c, ec, lc⟩ := enc_split x
  have hf0 : 1 ≤ f.data.size := by omega
  have h5 : leB 2 x.data.size = leB 2 f.data.size := by
    have h6 : ((encF x).drop 37).take 2 = ((encF f).dropLast.drop 37).take 2 := by rw [h4]
    rw [ec, List.drop_left' lc, List.take_left' (leB_length _ _), List.dropLast_eq_take, ea, List.drop_take, List.drop_left' la, List.take_take] at h6
    rw [h6, Nat.min_eq_left, List.take_left' (leB_length _ _)]
    have := toList_length f.data
    simp only [List.length_append, leB_length, la]
    omega
  obtain ⟨_, hd1⟩ := wrongF_zero h
  obtain ⟨_, hd2⟩ := wrongF_zero hw
  have h7 := leV_leB 2 (x.data.size : Int) (by omega) (by show (x.data.size : Int) < 65536; omega)
  have h8 := leV_leB 2 (f.data.size : Int) (by omega) (by show (f.data.size : Int) < 65536; omega)
  rw [h5, h8] at h7
  omega

/-- One byte changed. -/
theorem get_set (f : Fr) (b : ByteArray) (i : Nat) (hi : i < (seal4 (encF f) ++ encF f).length) (c : UInt8) (hc : c ≠ (seal4 (encF f) ++ encF f)[i]) (hb : b.data.toList = (seal4 (encF f) ++ encF f).set i c) : (getF b).2 = 6 := by
  unfold getF
  rw [hb, openB_set _ i hi c hc]
  rfl

end Go.Proofs.YtpbmclaglkcmoaaDoor
