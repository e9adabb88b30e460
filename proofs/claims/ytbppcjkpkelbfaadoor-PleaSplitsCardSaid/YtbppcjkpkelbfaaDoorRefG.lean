/-
  Contracts of given functions, or plain laws that they need. No condition.
-/
import Derived.Test.YtbppcjkpkelbfaaDoorBlaG
namespace Go.Bla
open Go Go.Eng
set_option linter.unusedVariables false
def mRight : List AV → List (Nat × Th) → Option (AV × List (Nat × Th) × List Prop)
  | [.d (.raw (.int .i64 x)), .d (.raw (.int .i64 n))], [] => some (.d (iw ((unw x).rotateRight n.toNat)), [], [x = ((unw x).toNat : Int), n = 16 ∨ n = 12 ∨ n = 8 ∨ n = 7])
  | _, _ => none
def four (q : W × W × W × W) : D := .agg [iw q.1, iw q.2.1, iw q.2.2.1, iw q.2.2.2]
def mG : List AV → List (Nat × Th) → Option (AV × List (Nat × Th) × List Prop)
  | [.d (.agg [.raw (.int .i64 a), .raw (.int .i64 b), .raw (.int .i64 c), .raw (.int .i64 d)]), .d (.raw (.int .i64 x)), .d (.raw (.int .i64 y))], [] =>
    some (.d (four (gM (unw a) (unw b) (unw c) (unw d) (unw x) (unw y))), [], [a = ((unw a).toNat : Int), b = ((unw b).toNat : Int), c = ((unw c).toNat : Int), d = ((unw d).toNat : Int), x = ((unw x).toNat : Int), y = ((unw y).toNat : Int)])
  | _, _ => none
def wel (l : List W) (i : Nat) : D := iw (l.getD i 0)
def wl (n : Nat) (el : Nat → D) : List W := (List.range n).map fun i => unw (unI (el i))
def OkR (n : Nat) (el : Nat → D) : Prop := ∀ i, i < n → el i = wel (wl n el) i
def mPut : List AV → List (Nat × Th) → Option (AV × List (Nat × Th) × List Prop)
  | [.own 0, .d (.raw (.int .i64 a)), .d (.raw (.int .i64 b)), .d (.raw (.int .i64 c)), .d (.raw (.int .i64 d)), .d (.raw (.int .i64 x)), .d (.raw (.int .i64 y))], [(0, .row T 1 16 el)] =>
    some (.dead, [(0, .row T 1 16 (wel (putM (wl 16 el) a.toNat b.toNat c.toNat d.toNat (unw x) (unw y))))], [OkR 16 el, x = ((unw x).toNat : Int), y = ((unw y).toNat : Int), (0 ≤ a ∧ a < 4) ∧ (4 ≤ b ∧ b < 8) ∧ (8 ≤ c ∧ c < 12) ∧ (12 ≤ d ∧ d < 16)])
  | _, _ => none
def mRow : List AV → List (Nat × Th) → Option (AV × List (Nat × Th) × List Prop)
  | [.d (.raw (.int .i64 r))], [] => some (.d (.list 1 16 fun i => I (sg r.toNat i)), [], [0 ≤ r ∧ r < 10])
  | _, _ => none
def mIv : List AV → List (Nat × Th) → Option (AV × List (Nat × Th) × List Prop)
  | [], [] => some (.own 0, [(0, .row 3 1 8 (wel ivM))], [])
  | _, _ => none
def Q1 : Orc := (Orc.none gl).add 76 false mRight
def Q2 : Orc := Q1.add 72 false mG
def Q3 : Orc := Q2.add 67 false mPut
def Q4 : Orc := Q3.add 66 false mRow
def Q5 : Orc := Q4.add 60 false mIv
end Go.Bla

namespace Go.Bla
open Go Go.Eng
set_option linter.unusedVariables false
def hD (h : List W) : AV := .d (.list 1 8 (wel h))
def bD (b : Nat → Int) : AV := .d (.list 1 64 fun i => .raw (.int .u8 (b i)))
def rs0 (h : List W) (b : Nat → Int) (t : Int) (last : Bool) (k : Nat) (i : Int) (el : Nat → D) : St := mk 0 222 [(0, hD h), (1, bD b), (2, .d (I t)), (3, .d (.raw (.bool last))), (9, .own 0), (10, .d (I i))] [(0, .row 3 1 k el)]
def rs9 (h : List W) (t : Int) (last : Bool) (el : Nat → D) : St := mk 0 222 [(0, hD h), (2, .d (I t)), (3, .d (.raw (.bool last))), (9, .own 0)] [(0, .row 3 1 16 el)]
def rs1 (h m v : List W) (r : Int) : St := mk 0 222 [(0, hD h), (9, .own 0), (11, .own 1), (12, .d (I r))] [(0, .row 3 1 16 (wel m)), (1, .row 3 1 16 (wel v))]
def rs2 (h v : List W) (n : Nat) (i : Int) (el : Nat → D) : St := mk 0 222 [(0, hD h), (11, .own 0), (14, .own 1), (15, .d (I i))] [(0, .row 3 1 16 (wel v)), (1, .row 3 1 n el)]
end Go.Bla
