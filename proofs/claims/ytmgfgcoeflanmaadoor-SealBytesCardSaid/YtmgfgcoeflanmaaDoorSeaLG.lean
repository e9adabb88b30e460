/-
  Contracts of given functions, or plain laws that they need. No condition.
-/
import Derived.Test.YtmgfgcoeflanmaaDoorSeaG
namespace Go.Sea
open Go Go.Eng Go.Nest Go.Memo
set_option linter.unusedVariables false
def nameB (g n : Int) : ByteArray := (nameM g n).1
def pG (s : ByteArray) : Int := (partyM s).1
def pN (s : ByteArray) : Int := (partyM s).2.1
def pE (s : ByteArray) : Int := (partyM s).2.2
def eB (g n : Int) (t tag : ByteArray) : ByteArray := (encS g n t tag).1
def eC (g n : Int) (t tag : ByteArray) : Int := (encS g n t tag).2
def dG (s : ByteArray) : Int := (decS s).1.g
def dN (s : ByteArray) : Int := (decS s).1.n
def dT (s : ByteArray) : ByteArray := (decS s).1.t
def dTag (s : ByteArray) : ByteArray := (decS s).1.tag
def dE (s : ByteArray) : Int := (decS s).2
def nilE (g n : Int) : Int := if isM g n = true then 7 else 1
def mNewL : Mo
  | [.d (.raw (.string seed))], [] => some (.tup [.ref 0 0, .d (.raw (.int .i64 0))], ring seed, [seed.size ≤ 32])
  | _, _ => none
def mNewE : Mo
  | [.d (.raw (.string seed))], [] => some (.tup [.d (.raw (.pointer none)), .d (.raw (.int .i64 2))], [], [¬ seed.size ≤ 32])
  | _, _ => none
def mSignL : Mo
  | [.ref 0 0, .d (.agg [.raw (.int .i64 g), .raw (.int .i64 n)]), .d (.raw (.string t))], [(0, .obj T [.d (.raw (.string seed))])] => some (.tup [.d (.agg [.raw (.int .i64 (sgG g n)), .raw (.int .i64 (sgN g n)), .raw (.string (sgT g n t)), .raw (.string (tagB seed g n t))]), .d (.raw (.int .i64 (tagE g n)))], [(0, .obj T [.d (.raw (.string seed))])], [T = 57, seed.size ≤ 32])
  | _, _ => none
def mTagL : Mo
  | [.ref 0 0, .d (.agg [.raw (.int .i64 g), .raw (.int .i64 n)]), .d (.raw (.string t))], [(0, .obj T [.d (.raw (.string seed))])] => some (.tup [.d (.raw (.string (tagB seed g n t))), .d (.raw (.int .i64 (tagE g n)))], [(0, .obj T [.d (.raw (.string seed))])], [T = 57, seed.size ≤ 32])
  | _, _ => none
def mChkL : Mo
  | [.ref 0 0, .d (.agg [.raw (.int .i64 g), .raw (.int .i64 n), .raw (.string t), .raw (.string tag)])], [(0, .obj T [.d (.raw (.string seed))])] => some (.d (.raw (.int .i64 (chkS seed g n t tag))), [(0, .obj T [.d (.raw (.string seed))])], [T = 57, seed.size ≤ 32])
  | _, _ => none
def mSignN : Mo
  | [.d (.raw (.pointer none)), .d (.agg [.raw (.int .i64 g), .raw (.int .i64 n)]), .d (.raw (.string t))], [] => some (.tup [.d (.agg [.raw (.int .i64 0), .raw (.int .i64 0), .raw (.string ByteArray.empty), .raw (.string ByteArray.empty)]), .d (.raw (.int .i64 (nilE g n)))], [], [])
  | _, _ => none
def mTagN : Mo
  | [.d (.raw (.pointer none)), .d (.agg [.raw (.int .i64 g), .raw (.int .i64 n)]), .d (.raw (.string t))], [] => some (.tup [.d (.raw (.string ByteArray.empty)), .d (.raw (.int .i64 (nilE g n)))], [], [])
  | _, _ => none
def mChkN : Mo
  | [.d (.raw (.pointer none)), .d (.agg [.raw (.int .i64 g), .raw (.int .i64 n), .raw (.string t), .raw (.string tag)])], [] => some (.d (.raw (.int .i64 (nilE g n))), [], [])
  | _, _ => none
def mNameL : Mo
  | [.d (.agg [.raw (.int .i64 g), .raw (.int .i64 n)])], [] => some (.tup [.d (.raw (.string (nameB g n))), .d (.raw (.int .i64 (tagE g n)))], [], [])
  | _, _ => none
def mPartyL : Mo
  | [.d (.raw (.string s))], [] => some (.tup [.d (.agg [.raw (.int .i64 (pG s)), .raw (.int .i64 (pN s))]), .d (.raw (.int .i64 (pE s)))], [], [s.size ≤ 1073741824])
  | _, _ => none
def mEncL : Mo
  | [.d (.agg [.raw (.int .i64 g), .raw (.int .i64 n), .raw (.string t), .raw (.string tag)])], [] => some (.tup [.d (.raw (.string (eB g n t tag))), .d (.raw (.int .i64 (eC g n t tag)))], [], [t.size ≤ 600000])
  | _, _ => none
def mEncRL : Mo
  | [.d (.agg [.raw (.int .i64 g), .raw (.int .i64 n)]), .d (.raw (.string t)), .d (.raw (.string tag))], [] => some (.tup [.d (.raw (.string (eB g n t tag))), .d (.raw (.int .i64 (eC g n t tag)))], [], [t.size ≤ 600000])
  | _, _ => none
def mDecL : Mo
  | [.d (.raw (.string s))], [] => some (.tup [.d (.agg [.raw (.int .i64 (dG s)), .raw (.int .i64 (dN s)), .raw (.string (dT s)), .raw (.string (dTag s))]), .d (.raw (.int .i64 (dE s)))], [], [s.size ≤ 1073741824])
  | _, _ => none
def mTagRL : Mo
  | [.d (.raw (.string seed)), .d (.agg [.raw (.int .i64 g), .raw (.int .i64 n)]), .d (.raw (.string t))], [] => some (.tup [.d (.raw (.string (tagB seed g n t))), .d (.raw (.int .i64 (tagE g n)))], [], [seed.size ≤ 32 ∧ t.size ≤ 1073741824])
  | _, _ => none
def mChkRL : Mo
  | [.d (.raw (.string seed)), .d (.agg [.raw (.int .i64 g), .raw (.int .i64 n)]), .d (.raw (.string t)), .d (.raw (.string tag))], [] => some (.d (.raw (.int .i64 (chkS seed g n t tag))), [], [seed.size ≤ 32 ∧ t.size ≤ 1073741824])
  | _, _ => none
def mOne : Mo
  | [], [] => some (.d (.raw (.bool true)), [], [])
  | _, _ => none
def sLit : ByteArray := ⟨#[115]⟩
def aLit : ByteArray := ⟨#[97]⟩
def bLit : ByteArray := ⟨#[98]⟩
/-- one's callees: the tag named z -/
def mSign1 (z : ByteArray) : Mo
  | [.ref 0 0, .d (.agg [.raw (.int .i64 g), .raw (.int .i64 n)]), .d (.raw (.string t))], [(0, .obj T [.d (.raw (.string seed))])] => some (.tup [.d (.agg [.raw (.int .i64 0), .raw (.int .i64 3), .raw (.string aLit), .raw (.string z)]), .d (.raw (.int .i64 0))], ring sLit, [T = 57, seed = sLit, g = 0, n = 3, t = aLit, z = tag16 sLit 0 3 aLit])
  | _, _ => none
def mName1 : Mo
  | [.d (.agg [.raw (.int .i64 g), .raw (.int .i64 n)])], [] => some (.tup [.d (.raw (.string ⟨#[49, 58, 48, 44, 49, 58, 51, 44]⟩)), .d (.raw (.int .i64 0))], [], [g = 0, n = 3])
  | _, _ => none
def mChk1 (z : ByteArray) : Mo
  | [.ref 0 0, .d (.agg [.raw (.int .i64 g), .raw (.int .i64 n), .raw (.string t), .raw (.string tag)])], [(0, .obj T [.d (.raw (.string seed))])] =>
    if byteAt t 0 = 97 then some (.d (.raw (.int .i64 0)), ring sLit, [T = 57, seed = sLit, g = 0, n = 3, t = aLit, tag = z, z = tag16 sLit 0 3 aLit])
    else some (.d (.raw (.int .i64 30)), ring sLit, [T = 57, seed = sLit, g = 0, n = 3, t = bLit, tag = z, z = tag16 sLit 0 3 aLit])
  | _, _ => none
def C1 (z : ByteArray) : Orc := ((((Orc.none glT).add 8 false mNewL).add 12 false (mSign1 z)).add 16 false mName1).add 13 false (mChk1 z)
def CN (m : Int) (e1 e2 : Value) : Orc := ((((((Orc.none (glS m e1 e2)).add 16 false mNameL).add 18 false mPartyL).add 17 false mNameL).add 19 false mPartyL).add 9 false mOne)
def CB (m : Int) (e1 e2 : Value) : Orc := ((((((Orc.none (glS m e1 e2)).add 20 false mEncL).add 22 false mDecL).add 21 false mEncRL).add 23 false mDecL).add 9 false mOne)
def CZ : Orc := ((((((Orc.none glT).add 10 false mTagN).add 12 false mSignN).add 13 false mChkN).add 15 false mIs).add 9 false mOne)
def CT : Orc := ((((((((Orc.none glT).add 8 false mNewL).add 10 false mTagL).add 12 false mSignL).add 13 false mChkL).add 11 false mTagRL).add 14 false mChkRL).add 9 false mOne)
def CEU (m : Int) (e1 e2 : Value) : Orc := (((Orc.none (glS m e1 e2)).add 8 false mNewE).add 9 false mOne)
def CE : Orc := (((Orc.none glT).add 8 false mNewE).add 9 false mOne)
def CH (m : Int) (e1 e2 : Value) : Orc := (((((((Orc.none (glS m e1 e2)).add 8 false mNewL).add 12 false mSignL).add 13 false mChkL).add 20 false mEncL).add 22 false mDecL).add 15 false mIs).add 9 false mOne
end Go.Sea
