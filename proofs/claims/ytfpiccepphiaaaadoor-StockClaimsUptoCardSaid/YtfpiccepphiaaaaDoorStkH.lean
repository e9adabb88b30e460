/-
  Contracts of given functions, or plain laws that they need. No condition.
-/
import Derived.Test.YtfpiccepphiaaaaDoorPkG
import Derived.Test.YtfpiccepphiaaaaDoorEng20
namespace Go.Stk
open Go Go.Eng Go.Nest Go.Memo
set_option linter.unusedVariables false
def clD (c : Cl) : AV := .d (.agg [.raw (.bool c.k), .raw (.int .i64 c.n), .raw (.int .i64 c.i), .raw (.string c.t)])
def mRefs : Mo
  | [.d (.agg [.raw (.bool k), .raw (.int .i64 n), .raw (.int .i64 j), .raw (.string t)])], [] => some (.d (.agg [.raw (.bool k), .raw (.int .i64 n), .raw (.int .i64 j), .raw (.string t)]), [], [])
  | _, _ => none
def mReadV (R : ByteArray → Cl × Int) : Mo
  | [.d (.raw (.string s))], [] => some (.tup [.d (.agg [.raw (.bool (R s).1.k), .raw (.int .i64 (R s).1.n), .raw (.int .i64 (R s).1.i), .raw (.string (R s).1.t)]), .d (.raw (.int .i64 (R s).2))], [], [R s = readC s, s.size < 1000000000])
  | _, _ => none
def mMoves : Mo
  | [], [] => some (.d (.raw (.bool true)), [], [])
  | _, _ => none
def LC (m : Int) (e1 e2 : Value) (q : ByteArray) (c : Int) (R : ByteArray → Cl × Int) : Orc := ((((((Orc.none (glU m e1 e2)).add 8 false (mCT q c)).add 9 false (mCT q c)).add 10 false mRefs).add 11 false (mReadV R)).add 12 false (mReadV R)).add 5 false mMoves
end Go.Stk

namespace Go.Eng
open Go
set_option linter.unusedVariables false
/-! Things that are the same, told by a Bool (the kernel computes it; a condition of it is short). -/
def sameV : Value → Value → Bool
  | .int k a, .int k' b => decide (k = k') && a == b
  | .string s, .string t => s.data.toList == t.data.toList
  | .bool a, .bool b => a == b
  | .slice none 0 0, .slice none 0 0 => true
  | .pointer none, .pointer none => true
  | _, _ => false
theorem sameV_eq {u v : Value} (h : sameV u v = true) : u = v := by
  unfold sameV at h
  split at h
  · simp only [Bool.and_eq_true, decide_eq_true_eq, beq_iff_eq] at h
    rw [h.1, h.2]
  · rename_i s t
    rw [show s = t from ext_ba (by simpa using h)]
  · rw [show _ = _ from eq_of_beq h]
  · rfl
  · rfl
  · cases h
def sameA : AV → AV → Bool
  | .d (.raw u), .d (.raw v) => sameV u v
  | .ref k o, .ref k' o' => k == k' && o == o'
  | .own k, .own k' => k == k'
  | .mp k, .mp k' => k == k'
  | _, _ => false
theorem sameA_eq {x y : AV} (h : sameA x y = true) : x = y := by
  unfold sameA at h
  split at h
  · rw [sameV_eq h]
  · simp only [Bool.and_eq_true, beq_iff_eq] at h; rw [h.1, h.2]
  · rw [show _ = _ from eq_of_beq h]
  · rw [show _ = _ from eq_of_beq h]
  · cases h
def sameAs : List AV → List AV → Bool
  | [], [] => true
  | x :: xs, y :: ys => sameA x y && sameAs xs ys
  | _, _ => false
theorem sameAs_eq : ∀ {xs ys : List AV}, sameAs xs ys = true → xs = ys
  | [], [], _ => rfl
  | x :: xs, y :: ys, h => by
    simp only [sameAs, Bool.and_eq_true] at h
    rw [sameA_eq h.1, sameAs_eq h.2]
  | [], _ :: _, h => by cases h
  | _ :: _, [], h => by cases h
def sameT : Th → Th → Bool
  | .obj T cs, .obj U ds => T == U && sameAs cs ds
  | _, _ => false
theorem sameT_eq {t u : Th} (h : sameT t u = true) : t = u := by
  unfold sameT at h
  split at h
  · simp only [Bool.and_eq_true, beq_iff_eq] at h; rw [h.1, sameAs_eq h.2]
  · cases h
def sameH : List (Nat × Th) → List (Nat × Th) → Bool
  | [], [] => true
  | (i, t) :: xs, (j, u) :: ys => i == j && sameT t u && sameH xs ys
  | _, _ => false
theorem sameH_eq : ∀ {xs ys : List (Nat × Th)}, sameH xs ys = true → xs = ys
  | [], [], _ => rfl
  | (i, t) :: xs, (j, u) :: ys, h => by
    simp only [sameH, Bool.and_eq_true, beq_iff_eq] at h
    rw [h.1.1, sameT_eq h.1.2, sameH_eq h.2]
  | [], _ :: _, h => by cases h
  | _ :: _, [], h => by cases h
end Go.Eng

namespace Go.Stk
open Go Go.Eng Go.Nest Go.Memo
set_option linter.unusedVariables false
abbrev gz0 : Nat → Option (List D) := fun _ => none
abbrev zI : AV := .d (.raw (.int .i64 0))
abbrev zS : AV := .d (.raw (.string ByteArray.empty))
/-- A shard without content. -/
def cl0 : List AV := [zI, zI, zS, zI, zI, zS, zI, zI, zS, zI, zI, zS, zI, zI, zS, zI, zI, zS, zI, zI, zS, zI, zI, zS]
def shT (st : Int) (k : Nat) : Th := .obj 108 (.d (.raw (.int .i64 st)) :: .ref k 0 :: cl0)
def taT : Th := .obj 129 [.d (.raw (.slice none 0 0))]
def shard0 (st : Int) : List (Nat × Th) := [(0, shT st 1), (1, taT)]
def mTabNew : Mo
  | [], [] => some (.ref 0 0, [(0, .obj 129 [.d (.raw (.slice none 0 0))])], [])
  | _, _ => none
def mShNew : Mo
  | [], [] => some (.ref 0 0, shard0 0, [])
  | _, _ => none
def intEl (l : List Int) (i : Nat) : D := .raw (.int .i64 (l.getD i 0))
/-- A stock of shards without content. -/
structure SP where
  s1 : Int
  s2 : Int
  s3 : Int
  s4 : Int
  g : Int
  num : Int
  gr : Option (Nat × (Nat → D))
  o1 : Int
  o2 : Int
  o3 : Int
  o4 : Int
def grA : Option (Nat × (Nat → D)) → AV
  | none => .d (.raw (.slice none 0 0))
  | some _ => .own 9
def grH : Option (Nat × (Nat → D)) → List (Nat × Th)
  | none => []
  | some (n, el) => [(9, .row 3 1 n el)]
def stk9 (p : SP) : List (Nat × Th) := [(0, .obj 69 [.ref 1 0, .ref 3 0, .ref 5 0, .ref 7 0, .d (.raw (.int .i64 p.g)), .d (.raw (.int .i64 p.num)), grA p.gr, .d (.raw (.int .i64 p.o1)), .d (.raw (.int .i64 p.o2)), .d (.raw (.int .i64 p.o3)), .d (.raw (.int .i64 p.o4))]), (1, shT p.s1 2), (2, taT), (3, shT p.s2 4), (4, taT), (5, shT p.s3 6), (6, taT), (7, shT p.s4 8), (8, taT)]
def stk (p : SP) : List (Nat × Th) := stk9 p ++ grH p.gr
def thI : Th → Int
  | .obj _ (.d (.raw (.int _ s)) :: _) => s
  | _ => 0
def spA (gr : Option (Nat × (Nat → D))) (t0 t1 t2 t3 t4 : Th) : Option SP :=
  match t0 with
  | .obj _ [_, _, _, _, .d (.raw (.int _ g)), .d (.raw (.int _ n)), _, .d (.raw (.int _ o1)), .d (.raw (.int _ o2)), .d (.raw (.int _ o3)), .d (.raw (.int _ o4))] => some ⟨thI t1, thI t2, thI t3, thI t4, g, n, gr, o1, o2, o3, o4⟩
  | _ => none
/-- A heap that is a stock's: its numbers, and whether all else is as it must be. -/
def spOf : List (Nat × Th) → Option (SP × Bool)
  | [(0, t0), (1, t1), (2, u1), (3, t2), (4, u2), (5, t3), (6, u3), (7, t4), (8, u4)] => match spA none t0 t1 t2 t3 t4 with
    | some p => some (p, sameH [(0, t0), (1, t1), (2, u1), (3, t2), (4, u2), (5, t3), (6, u3), (7, t4), (8, u4)] (stk9 p))
    | none => none
  | [(0, t0), (1, t1), (2, u1), (3, t2), (4, u2), (5, t3), (6, u3), (7, t4), (8, u4), (9, .row T z k el)] => match spA (some (k, el)) t0 t1 t2 t3 t4 with
    | some p => some (p, T == 3 && z == 1 && sameH [(0, t0), (1, t1), (2, u1), (3, t2), (4, u2), (5, t3), (6, u3), (7, t4), (8, u4)] (stk9 p))
    | none => none
  | _ => none
def O0 : Orc := Orc.none gz0
def O1 : Orc := (Orc.none gz0).add 47 false mTabNew
def O2 : Orc := (Orc.none gz0).add 29 false mShNew
def s0 : SP := ⟨0, 0, 0, 0, 1, 0, none, 0, 0, 0, 0⟩
def s1 (el : Nat → D) : SP := ⟨1, 1, 1, 1, 1, 1, some (1, el), 1, 1, 1, 1⟩
def s2 (el : Nat → D) : SP := ⟨2, 2, 1, 1, 1, 2, some (2, el), 2, 2, 1, 1⟩
def sv (p : SP) (i : Int) : Int := if i = 0 then p.s1 else if i = 1 then p.s2 else if i = 2 then p.s3 else p.s4
def eqS (p q : SP) : Bool := p.s1 == q.s1 && p.s2 == q.s2 && p.s3 == q.s3 && p.s4 == q.s4 && p.g == q.g && p.num == q.num && p.o1 == q.o1 && p.o2 == q.o2 && p.o3 == q.o3 && p.o4 == q.o4
def mAt : Mo
  | [.ref 0 0, .d (.raw (.int .i64 i))], H => match spOf H with
    | some (p, b) => some (.ref (if i = 0 then 1 else if i = 1 then 3 else if i = 2 then 5 else 7) 0, H, [b = true, decide (0 ≤ i ∧ i ≤ 3) = true])
    | none => none
  | _, _ => none
/-- Of one shard. -/
def mSt1 : Mo
  | [.ref 0 0], [(0, t), (1, u)] => some (.d (.raw (.int .i64 (thI t))), [(0, t), (1, u)], [(sameT t (shT (thI t) 1) && sameT u taT) = true])
  | _, _ => none
def mGo (a b : Int) : Mo
  | [.ref 0 0], [(0, t), (1, u)] => some (.d (.raw (.int .i64 0)), shard0 b, [(sameT t (shT a 1) && sameT u taT) = true])
  | _, _ => none
def mTurn1 (a b : Int) : Mo
  | [.ref 0 0, .d (.raw (.int .i64 x)), .d (.raw (.int .i64 y))], [(0, t), (1, u)] => some (.d (.raw (.int .i64 0)), shard0 b, [(sameT t (shT a 1) && sameT u taT && x == a && y == b) = true])
  | _, _ => none
def O3 (a b : Int) : Orc := (Orc.none gz0).add 50 false (mTurn1 a b)
/-- Pack of a list of known texts, or of nil. -/
def mPackN (q : ByteArray) : Mo
  | [.d (.list 1 n el)], [] => some (.d (.raw (.string q)), [], [∃ r : List ByteArray, n = r.length ∧ (∀ i, i < n → el i = strEl r i) ∧ q = packB r ∧ (packL r).length ≤ 1073741824])
  | [.d (.raw (.slice none 0 0))], [] => some (.d (.raw (.string q)), [], [q = packB []])
  | _, _ => none
def conB : ByteArray := packB [packB []]
def mTabTxt : Mo
  | [.ref 0 0], [(0, u)] => some (.d (.raw (.string (packB []))), [(0, u)], [sameT u taT = true])
  | _, _ => none
def O4 : Orc := (Orc.none glP).add 20 true (mPackN (packB []))
def O5 (q : ByteArray) : Orc := (((Orc.none glP).add 20 true (mPackN q)).add 51 false mTabTxt).add 36 false mSt1
def mCon1 (q : ByteArray) : Mo
  | [.ref 0 0], [(0, t), (1, u)] => some (.d (.raw (.string q)), [(0, t), (1, u)], [(sameT t (shT 2 1) && sameT u taT) = true, q = conB])
  | _, _ => none
/-- Configurations. -/
def idxF : List Int → Int → Int → Int
  | [], _, _ => -1
  | g :: r, v, k => if g = v then k else idxF r v (k + 1)
def grpF : Int → List Int → Bool
  | _, [] => true
  | z, g :: r => decide (z < g ∧ 1 ≤ g ∧ g ≤ 4) && grpF g r
def ownM (l : List Int) (o : Int) : Bool := if l.length = 0 then decide (o = 0) else decide (0 ≤ idxF l o 0)
def chkC (n : Int) (l : List Int) (o1 o2 o3 o4 : Int) : Int := if 0 ≤ n ∧ n ≤ 1099511627776 ∧ grpF 0 l = true ∧ ownM l o1 = true ∧ ownM l o2 = true ∧ ownM l o3 = true ∧ ownM l o4 = true then 0 else 4
def mIdx (l : List Int) : Mo
  | [.d (.list 1 n el), .d (.raw (.int .i64 v))], [] => some (.d (.raw (.int .i64 (idxF l v 0))), [], [n = l.length, ∀ i, i < l.length → el i = intEl l i, l.length ≤ 1099511627776])
  | _, _ => none
def mHas (l : List Int) : Mo
  | [.d (.list 1 n el), .d (.raw (.int .i64 v))], [] => some (.d (.raw (.bool (decide (0 ≤ idxF l v 0)))), [], [n = l.length, ∀ i, i < l.length → el i = intEl l i, l.length ≤ 1099511627776])
  | _, _ => none
def mGrp : Mo
  | [.d (.raw (.int .i64 v))], [] => some (.d (.raw (.bool (decide (1 ≤ v ∧ v ≤ 4)))), [], [])
  | _, _ => none
def Q0 (l : List Int) : Orc := (Orc.none gz0).add 61 false (mIdx l)
def Q1 (l : List Int) : Orc := ((Orc.none gz0).add 49 false (mHas l)).add 48 false mGrp
def mChk (l : List Int) : Mo
  | [.d (.agg [.raw (.int .i64 n), .list 1 k el, .raw (.int .i64 o1), .raw (.int .i64 o2), .raw (.int .i64 o3), .raw (.int .i64 o4)])], [] => some (.d (.raw (.int .i64 (chkC n l o1 o2 o3 o4))), [], [k = l.length, ∀ i, i < l.length → el i = intEl l i, l.length ≤ 1099511627776])
  | _, _ => none
def mSetl : Mo
  | [.ref 0 0], H => match spOf H with
    | some (p, b) => match p.gr with
      | none => some (.d (.raw (.bool true)), H, [(b && eqS p s0) = true])
      | some (c, eg) => some (.d (.raw (.bool true)), H, [(b && eqS p (s1 eg) && c == 1) = true])
    | none => none
  | _, _ => none
def U0 : Orc := ((Orc.none gz0).add 32 false mAt).add 36 false mSt1
def U1 (l : List Int) (a b : Int) : Orc := ((((Orc.none gz0).add 32 false mAt).add 31 false mSetl).add 30 false (mChk l)).add 33 false (mGo 0 1)
def U2 (l : List Int) (a b : Int) : Orc := (U1 l a b).add 35 false (mGo 1 2)
end Go.Stk

namespace Go.Stk
open Go Go.Eng Go.Nest Go.Memo
set_option linter.unusedVariables false
def ix1 (l : List Int) (v n i : Int) : St := mk 0 19 [(0, .d (.list 1 (l.length) (intEl l))), (1, .d (.raw (.int .i64 v))), (7, .d (.raw (.int .i64 n))), (8, .d (.raw (.int .i64 i)))] []
def ck1 (l : List Int) (n o1 o2 o3 o4 z k i : Int) : St := mk 0 60 [(1, .ref 0 0), (3, .d (.raw (.int .i64 z))), (17, .d (.list 1 (l.length) (intEl l))), (18, .d (.raw (.int .i64 k))), (19, .d (.raw (.int .i64 i)))] [(0, .obj 46 [.d (.raw (.int .i64 n)), .d (.list 1 (l.length) (intEl l)), .d (.raw (.int .i64 o1)), .d (.raw (.int .i64 o2)), .d (.raw (.int .i64 o3)), .d (.raw (.int .i64 o4))])]
def agC (n : Int) (l : List Int) (o1 o2 o3 o4 : Int) : AV := .d (.agg [.raw (.int .i64 n), .list 1 l.length (intEl l), .raw (.int .i64 o1), .raw (.int .i64 o2), .raw (.int .i64 o3), .raw (.int .i64 o4)])
end Go.Stk
