/-
  Contracts of given functions, or plain laws that they need. No condition.
-/
import Derived.Test.YtmhfkicgmdhooaaDoorTabRG
import Derived.Lib.ItoaNum
namespace Go.Tab
open Go Go.Eng Go.Nest
set_option linter.unusedVariables false
/-- The reference's rows, in the order in which they came. -/
def idxR (q : List Rw) (key : ByteArray) : Nat := q.findIdx fun r => decide (r.1 = key)
def atI (q : List Rw) (key : ByteArray) : Int := if hasM q key then (idxR q key : Int) else -1
def rhad (q : List Rw) (key : ByteArray) : ByteArray := if hasM q key then (q.getD (idxR q key) (ByteArray.empty, ByteArray.empty)).2 else ByteArray.empty
def rput (q : List Rw) (key now : ByteArray) : List Rw := if hasM q key then q.set (idxR q key) (key, now) else q ++ [(key, now)]
def rdel (q : List Rw) (key : ByteArray) : List Rw := q.filter fun r => !decide (r.1 = key)
def rnow (q : List Rw) (k : Int) (key val : ByteArray) : ByteArray := if k = 3 then rhad q key ++ val else val
def rdoM (q : List Rw) (k : Int) (key val old : ByteArray) : ByteArray × Int × List Rw :=
  if checkM k key val old = 0 then
    if k = 2 ∨ k = 3 then
      if hasM q key = false ∧ 16 ≤ q.length then (ByteArray.empty, 5, q)
      else if 64 < (rnow q k key val).size then (ByteArray.empty, 2, q)
      else (if k = 3 then rnow q k key val else rhad q key, 0, rput q key (rnow q k key val))
    else if hasM q key then
      if k = 5 then (if rhad q key = old then (rhad q key, 0, rput q key val) else (ByteArray.empty, 7, q))
      else if k = 4 then (rhad q key, 0, rdel q key)
      else (rhad q key, 0, q)
    else (ByteArray.empty, 6, q)
  else (ByteArray.empty, checkM k key val old, q)
def rt2 (q : List Rw) : List (Nat × Th) := [(0, .obj 36 [.own 2]), (2, .row 65 2 q.length (rowEl q))]
def rt0 (q : List Rw) : List (Nat × Th) := [(0, .obj 36 [.own 1]), (1, .row 65 2 q.length (rowEl q))]
def mAt (q : List Rw) : Mo
  | [.ref 0 0, .d (.raw (.string key))], [(0, .obj T [.own 1]), (1, .row R 2 n el)] => some (.d (.raw (.int .i64 (atI q key))), [(0, .obj T [.own 1]), (1, .row R 2 n el)], [T = 36, R = 65, n = q.length, el = rowEl q])
  | _, _ => none
def numB (n : Nat) : ByteArray := ⟨(Lib.decDigits n).toArray⟩
def mNumR : Mo
  | [.d (.raw (.int .i64 n))], [] => some (.d (.raw (.string (numB n.toNat))), [], [0 ≤ n ∧ n < 2 ^ 62])
  | _, _ => none
def R0 : Orc := (Orc.none (fun _ => none)).add 16 false mCheck
def R1 (q : List Rw) : Orc := R0.add 25 false (mAt q)
def R2 : Orc := (Orc.none (fun _ => none)).add 35 false mNumR
def mPackR (r : List ByteArray) : Mo
  | [.own 0], [(0, .row T 1 n el)] => some (.d (.raw (.string (packB r))), [(0, .row T 1 n el)], [T = 9, n = r.length, el = strEl r, (packL r).length ≤ 1099511627776])
  | _, _ => none
def R3 (r : List ByteArray) : Orc := (Orc.none (fun _ => none)).add 26 false (mPackR r)
/-- at, at its loop -/
def at1 (q : List Rw) (key : ByteArray) (n i : Int) : St := mk 2 23 [(1, .d (.raw (.string key))), (10, .own 1), (11, .d (.raw (.int .i64 n))), (12, .d (.raw (.int .i64 i)))] (rt0 q)
/-- Do, at its loop -/
def rd1l (q : List Rw) (k : Int) (key val old had : ByteArray) (r : List Rw) (n i : Int) : St := mk 2 143 [(0, .ref 0 0), (3, .ref 2 0), (11, .d (.raw (.string had))), (12, .own 3), (122, .own 1), (123, .d (.raw (.int .i64 n))), (124, .d (.raw (.int .i64 i)))] (rt0 q ++ [(2, .obj 39 [.d (.raw (.int .i64 k)), .d (.raw (.string key)), .d (.raw (.string val)), .d (.raw (.string old))]), (3, .row 65 2 r.length (rowEl r))])
end Go.Tab
