/- Plain words for the contracts of functions that are walked by hand: a text's code points, names, cuts. No program in it. -/
import Derived.WalkKit
import Derived.Test.YtgnehcgaplnfkaaDoorWWords
import Derived.Laws.RangeAny
import Derived.Lib.Join
import Derived.Lib.OthersKept
namespace Go.Proofs.YtgnehcgaplnfkaaDoor.Base
open Go.Proofs.YtgnehcgaplnfkaaDoorW.PrintWords

/-- The code points of a text, from a place on, by at most so many. -/
def runesFrom (s : ByteArray) : Nat → Nat → List Int
  | 0, _ => []
  | f + 1, pos => if pos < s.size then ((Utf8.decode s pos).1 : Int) :: runesFrom s f (pos + (Utf8.decode s pos).2) else []
def runesOf (s : ByteArray) : List Int := runesFrom s s.size 0

theorem width_pos (s : ByteArray) (pos : Nat) (h : pos < s.size) : 1 ≤ (Utf8.decode s pos).2 := by
  by_cases ha : (s[pos]'h).toNat < 128
  · rw [decode_ascii s pos h ha]
    exact Nat.le_refl _
  · exact (decode_high s pos h (by omega)).2

theorem runesFrom_end (s : ByteArray) (f pos : Nat) (h : ¬ pos < s.size) : runesFrom s f pos = [] := by
  cases f with
  | zero => rfl
  | succ f => simp [runesFrom, h]

theorem runesFrom_step (s : ByteArray) (f pos : Nat) (h : pos < s.size) :
    runesFrom s (f + 1) pos = ((Utf8.decode s pos).1 : Int) :: runesFrom s f (pos + (Utf8.decode s pos).2) := by
  simp [runesFrom, h]

/-- Enough steps: one more changes nothing. -/
theorem runesFrom_enough (s : ByteArray) : ∀ (d f pos : Nat), s.size - pos ≤ d → s.size - pos ≤ f → runesFrom s (f + 1) pos = runesFrom s f pos := by
  intro d
  induction d with
  | zero => intro f pos h _; rw [runesFrom_end s (f + 1) pos (by omega), runesFrom_end s f pos (by omega)]
  | succ d ih =>
    intro f pos h hf
    by_cases hp : pos < s.size
    · obtain ⟨g, rfl⟩ : ∃ g, f = g + 1 := ⟨f - 1, by omega⟩
      have hw := width_pos s pos hp
      rw [runesFrom_step s (g + 1) pos hp, runesFrom_step s g pos hp, ih g _ (by omega) (by omega)]
    · rw [runesFrom_end s (f + 1) pos hp, runesFrom_end s f pos hp]

theorem toList_nil (s : ByteArray) : s.toList = [] ↔ s.size = 0 := by
  have h : s.toList.length = s.size := by rw [ByteArray.toList_eq]; simp
  constructor
  · intro e
    rw [e] at h
    simpa using h.symm
  · intro e
    exact List.eq_nil_of_length_eq_zero (by omega)

theorem size1 (c : UInt8) : (⟨#[c]⟩ : ByteArray).size = 1 := rfl

/-- A letter or the underscore, as the program asks it; a digit. -/
def letterB (c : Int) : Bool := decide (c = 95) || (decide (97 ≤ Go.bits .or .u8 c 32) && decide (Go.bits .or .u8 c 32 ≤ 122))
def digitB (c : Int) : Bool := decide (48 ≤ c) && decide (c ≤ 57)
/-- A code point that may stand in a value. -/
def plainB (r : Int) : Bool := decide (32 ≤ r) && !decide (r = 127) && !decide (r = 65533)
def nameB (s : ByteArray) : Bool := decide (0 < s.size) && decide (s.size ≤ 24) && letterB ((bytesOf s).headD 0) && (bytesOf s).all (fun c => letterB c || digitB c)
def valueB (s : ByteArray) : Bool := (runesOf s).all plainB && decide (0 < s.size) && decide (s.size ≤ 40)
def plainTextB (s : ByteArray) : Bool := (runesOf s).all fun r => !(decide (r < 32) || decide (r = 127) || decide (r = 65533))

/-- A text cut at the first instance of a byte. -/
def cutAt (c : UInt8) (s : ByteArray) : ByteArray × ByteArray × Bool :=
  match s.data.toList.findIdx? (· == c) with
  | some i => (s.extract 0 i, s.extract (i + 1) s.size, true)
  | none => (s, ByteArray.empty, false)

/-- A byte between quotation marks. -/
def quoteByte (c : UInt8) : List UInt8 := if c = 34 ∨ c = 92 then [92, c] else [c]
def quoteL (l : List UInt8) : List UInt8 := 34 :: (l.flatMap quoteByte ++ [34])
def quoteS (s : ByteArray) : ByteArray := ⟨(quoteL s.data.toList).toArray⟩

/-- A text out of bytes. -/
def ofL (l : List UInt8) : ByteArray := ⟨l.toArray⟩
theorem ofL_data (l : List UInt8) : (ofL l).data.toList = l := by simp [ofL]
theorem ofL_of (s : ByteArray) : ofL s.data.toList = s := by
  cases s with
  | mk d => simp [ofL]
theorem ext_data {a b : ByteArray} (h : a.data.toList = b.data.toList) : a = b := by
  rw [← ofL_of a, ← ofL_of b, h]
theorem extract_list (s : ByteArray) (i j : Nat) : (s.extract i j).data.toList = (s.data.toList.drop i).take (j - i) := by
  rw [Lib.extract_data]
theorem extract_rest (s : ByteArray) (i : Nat) : (s.extract i s.size).data.toList = s.data.toList.drop i := by
  rw [extract_list]
  exact List.take_of_length_le (by rw [List.length_drop, data_length]; exact Nat.le_refl _)

/-- What stands before the closing quotation mark, and the rest behind it. -/
def unqL : List UInt8 → List UInt8 → Option (List UInt8 × List UInt8)
  | [], _ => none
  | c :: r, acc =>
    if c = 34 then some (acc, r)
    else if c = 92 then
      match r with
      | [] => none
      | d :: q => if d = 34 ∨ d = 92 then unqL q (acc ++ [d]) else none
    else unqL r (acc ++ [c])
theorem unqL_end (r acc : List UInt8) : unqL (34 :: r) acc = some (acc, r) := by
  unfold unqL
  rw [if_pos rfl]
theorem unqL_esc (d : UInt8) (q acc : List UInt8) (h : d = 34 ∨ d = 92) : unqL (92 :: d :: q) acc = unqL q (acc ++ [d]) := by
  conv => lhs; unfold unqL
  rw [if_neg (by decide), if_pos rfl]
  simp only
  rw [if_pos h]
theorem unqL_bad (d : UInt8) (q acc : List UInt8) (h : ¬ (d = 34 ∨ d = 92)) : unqL (92 :: d :: q) acc = none := by
  conv => lhs; unfold unqL
  rw [if_neg (by decide), if_pos rfl]
  simp only
  rw [if_neg h]
theorem unqL_open (acc : List UInt8) : unqL [92] acc = none := by
  unfold unqL
  rw [if_neg (by decide), if_pos rfl]
theorem unqL_plain (c : UInt8) (r acc : List UInt8) (h1 : ¬ c = 34) (h2 : ¬ c = 92) : unqL (c :: r) acc = unqL r (acc ++ [c]) := by
  conv => lhs; unfold unqL
  rw [if_neg h1, if_neg h2]
theorem unqL_nil (acc : List UInt8) : unqL [] acc = none := by unfold unqL; rfl
def unq (s : ByteArray) : ByteArray × ByteArray × Int :=
  match s.data.toList with
  | [] => (⟨#[]⟩, ⟨#[]⟩, 5)
  | c :: r => if c = 34 then (match unqL r [] with
    | some (a, q) => (ofL a, ofL q, 0)
    | none => (⟨#[]⟩, ⟨#[]⟩, 5)) else (⟨#[]⟩, ⟨#[]⟩, 5)

/-- Two texts held against each other. -/
def cmpS (a b : ByteArray) : Int := if Op.bytesLess a.toList b.toList = true then -1 else if Op.bytesLess b.toList a.toList = true then 1 else 0

theorem less_irrefl : ∀ a : List UInt8, Op.bytesLess a a = false
  | [] => by simp [Op.bytesLess]
  | x :: r => by simp [Op.bytesLess, less_irrefl r]

theorem less_or : ∀ a b : List UInt8, (Op.bytesLess a b || a == b) = !(Op.bytesLess b a)
  | [], [] => by simp [Op.bytesLess]
  | [], _ :: _ => by simp [Op.bytesLess]
  | _ :: _, [] => by simp [Op.bytesLess]
  | x :: r, y :: q => by
    have ih := less_or r q
    by_cases h1 : x < y
    · have h2 : ¬ y < x := fun h => absurd (UInt8.lt_trans h1 h) (UInt8.lt_irrefl _)
      have h3 : ¬ x = y := fun h => by subst h; exact UInt8.lt_irrefl _ h1
      have h4 : ¬ y = x := fun h => h3 h.symm
      simp [Op.bytesLess, h1, h2, h4]
    · by_cases h2 : y < x
      · have h3 : ¬ x = y := fun h => by subst h; exact UInt8.lt_irrefl _ h2
        simp [Op.bytesLess, h1, h2, h3]
      · have h3 : x = y := UInt8.le_antisymm (UInt8.not_lt.1 h2) (UInt8.not_lt.1 h1)
        subst h3
        simp only [Op.bytesLess, UInt8.lt_irrefl, decide_false, Bool.false_or, beq_self_eq_true, Bool.true_and]
        rw [← ih]
        simp

end Go.Proofs.YtgnehcgaplnfkaaDoor.Base
namespace Go
/-- The walk's words for the orders of texts. -/
@[go_sem] theorem seat_leq (t : TypeId) (a b : ByteArray) : binOp .leq t (.string a) (.string b) = pure (.bool (!(Op.bytesLess b.toList a.toList))) := by
  rw [← Go.Proofs.YtgnehcgaplnfkaaDoor.Base.less_or]
  simp [binOp, Op.stringOp]
@[go_sem] theorem seat_gtr (t : TypeId) (a b : ByteArray) : binOp .gtr t (.string a) (.string b) = pure (.bool (Op.bytesLess b.toList a.toList)) := by
  have h := Go.Proofs.YtgnehcgaplnfkaaDoor.Base.less_or a.toList b.toList
  have h2 : Op.bytesLess b.toList a.toList = !(Op.bytesLess a.toList b.toList || a.toList == b.toList) := by rw [h]; simp
  rw [h2]
  simp [binOp, Op.stringOp]
@[go_sem] theorem seat_geq (t : TypeId) (a b : ByteArray) : binOp .geq t (.string a) (.string b) = pure (.bool (!(Op.bytesLess a.toList b.toList))) := by
  simp [binOp, Op.stringOp]
end Go
