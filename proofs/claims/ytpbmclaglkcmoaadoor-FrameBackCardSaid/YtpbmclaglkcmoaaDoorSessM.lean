import Derived.Lib.Hide
namespace Go.Proofs.YtpbmclaglkcmoaaDoor
set_option linter.unusedVariables false

/-! A session as what its functions compute: no program in sight. -/
structure Wt where
  seq : Int
  data : ByteArray
  sent : Bool
  age : Int

structure Fr where
  fr : Int
  to : Int
  mine : Int
  yours : Int
  seq : Int
  ack : Int
  data : ByteArray
  has : Bool

structure Se where
  self : Int
  peer : Int
  mine : Int
  yours : Int
  out : List Wt
  last : Int
  heard : Int
  ahead : Int → Option ByteArray
  owed : Bool

def noAhead : Int → Option ByteArray := fun _ => none
def putAhead (m : Int → Option ByteArray) (k : Int) (d : ByteArray) : Int → Option ByteArray := fun x => if x = k then some d else m x
def delAhead (m : Int → Option ByteArray) (k : Int) : Int → Option ByteArray := fun x => if x = k then none else m x

def Se.fresh (self peer life : Int) : Se := ⟨self, peer, life, 0, [], 0, 0, noAhead, false⟩
def Se.frame (s : Se) : Fr := ⟨s.self, s.peer, s.mine, s.yours, 0, s.heard, ⟨#[]⟩, false⟩
def Se.frameOf (s : Se) (x : Wt) : Fr := ⟨s.self, s.peer, s.mine, s.yours, x.seq, s.heard, x.data, true⟩

/-- Send: its error, and the session behind it. -/
def Se.send (s : Se) (d : ByteArray) : Int × Se :=
  if 3000 < d.size then (2, s)
  else if s.out.length = 64 then (10, s)
  else (0, { s with last := s.last + 1, out := s.out ++ [⟨s.last + 1, d, false, 0⟩] })

def Wt.out (x : Wt) : Wt := if x.sent then x else ⟨x.seq, x.data, true, 0⟩
def Wt.tick (x : Wt) : Wt := if x.sent then ⟨x.seq, x.data, decide (x.age + 1 < 4), x.age + 1⟩ else x

/-- The frames of the messages that were not sent yet. -/
def Se.sends (s : Se) (l : List Wt) : List Fr := (l.filter (fun x => !x.sent)).map s.frameOf
def Se.outF (s : Se) : List Fr := if s.owed ∧ s.sends s.out = [] then [s.frame] else s.sends s.out
def Se.outS (s : Se) : Se := { s with out := s.out.map Wt.out, owed := false }
def Se.tick (s : Se) : Se := { s with out := s.out.map Wt.tick }

def number : Int → List Wt → List Wt
  | _, [] => []
  | k, x :: l => ⟨k + 1, x.data, false, x.age⟩ :: number (k + 1) l
def Se.greater (s : Se) (life : Int) : Se :=
  let o := if 0 < s.yours then [] else s.out
  { s with yours := life, heard := 0, ahead := noAhead, out := number 0 o, last := o.length }

def Se.bad (s : Se) (f : Fr) : Bool := decide (f.fr ≠ s.peer ∨ f.to ≠ s.self ∨ f.mine < 1 ∨ f.mine < s.yours ∨ s.mine < f.yours)
def Se.up (s : Se) (f : Fr) : Se := if s.yours < f.mine then s.greater f.mine else s
def Se.ackd (s : Se) (a : Int) : Se := { s with out := s.out.dropWhile (fun x => decide (x.seq ≤ a)) }
def Se.owe (s : Se) : Se := { s with owed := true }
def Se.put (s : Se) (f : Fr) : Se :=
  if (s.ahead f.seq).isNone ∧ s.heard < f.seq ∧ f.seq - s.heard - 1 ≤ 64 then { s with ahead := putAhead s.ahead f.seq f.data } else s

/-- What is told out of what was heard ahead: at most n. -/
def tellN : Nat → Se → List ByteArray × Se
  | 0, s => ([], s)
  | n + 1, s => match s.ahead (s.heard + 1) with
    | none => ([], s)
    | some d => (d :: (tellN n { s with ahead := delAhead s.ahead (s.heard + 1), heard := s.heard + 1 }).1, (tellN n { s with ahead := delAhead s.ahead (s.heard + 1), heard := s.heard + 1 }).2)

/-- Take: what is told, whether it was taken, and the session behind it. -/
def Se.take (s : Se) (f : Fr) : (List ByteArray × Bool) × Se :=
  if s.bad f = true then (([], false), s)
  else if f.yours ≠ s.mine then (([], true), (s.up f).owe)
  else if f.has = false then (([], true), (s.up f).ackd f.ack)
  else (((tellN 66 (((s.up f).ackd f.ack).owe.put f)).1, true), (tellN 66 (((s.up f).ackd f.ack).owe.put f)).2)

/-- What every session of ours is, with numbers up to N. -/
structure Se.Ok (N : Int) (s : Se) : Prop where
  len : s.out.length ≤ 64
  heard : 0 ≤ s.heard ∧ s.heard ≤ N
  last : 0 ≤ s.last ∧ s.last ≤ N
  age : ∀ x ∈ s.out, 0 ≤ x.age ∧ x.age ≤ 4 ∧ (x.sent = true → x.age ≤ 3)
  seq : ∀ x ∈ s.out, 0 ≤ x.seq ∧ x.seq ≤ N
  ahead : ∀ x d, s.ahead x = some d → s.heard + 1 < x ∧ x ≤ s.heard + 65 ∧ x ≤ N ∧ d.size ≤ 3000
  size : ∀ x ∈ s.out, x.data.size ≤ 3000

theorem number_length : ∀ (l : List Wt) (k : Int), (number k l).length = l.length
  | [], k => rfl
  | x :: l, k => by simp [number, number_length l]

theorem number_get : ∀ (l : List Wt) (k : Int) (j : Nat) (h : j < l.length), (number k l)[j]? = some ⟨k + j + 1, l[j].data, false, l[j].age⟩
  | [], k, j, h => absurd h (Nat.not_lt_zero _)
  | x :: l, k, 0, h => by simp [number]
  | x :: l, k, j + 1, h => by
    simp only [number, List.getElem?_cons_succ, List.getElem_cons_succ]
    rw [number_get l (k + 1) j (by simpa using h)]
    congr 2
    omega

end Go.Proofs.YtpbmclaglkcmoaaDoor
