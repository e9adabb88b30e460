/-
  Contracts of given functions, or plain laws that they need. No condition.
-/
import Derived.Test.YtfpiccepphiaaaaDoorRowB
import Derived.Test.YtfpiccepphiaaaaDoorBlaG
import Derived.Test.YtfpiccepphiaaaaDoorBlaP
import Derived.WalkKit
import Derived.BigCall
import Derived.Shelf.Strconv.Itoa3
import Derived.Shelf.Strconv.ErrVarAll
import Derived.Shelf.Strings.Shaped
import Derived.Lib.AppendIntMem
import Derived.WideLaws
import Derived.RangeFuncNested
import Derived.RangeFuncBound
import Derived.RangeFuncCalls
import Derived.RangeFuncLeaves
import Derived.RangeFuncBox
import Derived.Shelf.Abstract
import Derived.Shelf.RegionOpen
import Derived.OwnWalkIn
import Derived.TacticsInMore
import Derived.LoopNIn
import Derived.LoopIn
import Derived.Maps.AppendAt
namespace Go.Stk
open Go Go.Eng Go.Nest Go.Memo
set_option linter.unusedVariables false
abbrev gz0 : Nat → Option (List D) := fun _ => none
abbrev zI : AV := .d (.raw (.int .i64 0))
abbrev zS : AV := .d (.raw (.string ByteArray.empty))
/-- A shard without content. -/
def cl0 : List AV := [zI, zI, zS, zI, zI, zS, zI, zI, zS, zI, zI, zS, zI, zI, zS, zI, zI, zS, zI, zI, zS, zI, zI, zS]
def shT (st : Int) (k : Nat) : Th := .obj 108 (.d (.raw (.int .i64 st)) :: .ref k 0 :: cl0)
def taT : Th := .obj 129 [.d (.raw (.slice none 0 0))]
def shard0 (st : Int) : List (Nat × Th) := [(0, shT st 1), (1, taT)]
def mTabNew : Mo
  | [], [] => some (.ref 0 0, [(0, .obj 129 [.d (.raw (.slice none 0 0))])], [])
  | _, _ => none
def mShNew : Mo
  | [], [] => some (.ref 0 0, shard0 0, [])
  | _, _ => none
def intEl (l : List Int) (i : Nat) : D := .raw (.int .i64 (l.getD i 0))
/-- A stock of shards without content. -/
structure SP where
  s1 : Int
  s2 : Int
  s3 : Int
  s4 : Int
  g : Int
  num : Int
  gr : Option (Nat × (Nat → D))
  o1 : Int
  o2 : Int
  o3 : Int
  o4 : Int
def grA : Option (Nat × (Nat → D)) → AV
  | none => .d (.raw (.slice none 0 0))
  | some _ => .own 9
def grH : Option (Nat × (Nat → D)) → List (Nat × Th)
  | none => []
  | some (n, el) => [(9, .row 3 1 n el)]
def stk9 (p : SP) : List (Nat × Th) := [(0, .obj 69 [.ref 1 0, .ref 3 0, .ref 5 0, .ref 7 0, .d (.raw (.int .i64 p.g)), .d (.raw (.int .i64 p.num)), grA p.gr, .d (.raw (.int .i64 p.o1)), .d (.raw (.int .i64 p.o2)), .d (.raw (.int .i64 p.o3)), .d (.raw (.int .i64 p.o4))]), (1, shT p.s1 2), (2, taT), (3, shT p.s2 4), (4, taT), (5, shT p.s3 6), (6, taT), (7, shT p.s4 8), (8, taT)]
def stk (p : SP) : List (Nat × Th) := stk9 p ++ grH p.gr
def thI : Th → Int
  | .obj _ (.d (.raw (.int _ s)) :: _) => s
  | _ => 0
def spA (gr : Option (Nat × (Nat → D))) (t0 t1 t2 t3 t4 : Th) : Option SP :=
  match t0 with
  | .obj _ [_, _, _, _, .d (.raw (.int _ g)), .d (.raw (.int _ n)), _, .d (.raw (.int _ o1)), .d (.raw (.int _ o2)), .d (.raw (.int _ o3)), .d (.raw (.int _ o4))] => some ⟨thI t1, thI t2, thI t3, thI t4, g, n, gr, o1, o2, o3, o4⟩
  | _ => none
/-- A heap that is a stock's: its numbers, and whether all else is as it must be. -/
def spOf : List (Nat × Th) → Option (SP × Bool)
  | [(0, t0), (1, t1), (2, u1), (3, t2), (4, u2), (5, t3), (6, u3), (7, t4), (8, u4)] => match spA none t0 t1 t2 t3 t4 with
    | some p => some (p, sameH [(0, t0), (1, t1), (2, u1), (3, t2), (4, u2), (5, t3), (6, u3), (7, t4), (8, u4)] (stk9 p))
    | none => none
  | [(0, t0), (1, t1), (2, u1), (3, t2), (4, u2), (5, t3), (6, u3), (7, t4), (8, u4), (9, .row T z k el)] => match spA (some (k, el)) t0 t1 t2 t3 t4 with
    | some p => some (p, T == 3 && z == 1 && sameH [(0, t0), (1, t1), (2, u1), (3, t2), (4, u2), (5, t3), (6, u3), (7, t4), (8, u4)] (stk9 p))
    | none => none
  | _ => none
def O0 : Orc := Orc.none gz0
def O1 : Orc := (Orc.none gz0).add 47 false mTabNew
def O2 : Orc := (Orc.none gz0).add 29 false mShNew
def s0 : SP := ⟨0, 0, 0, 0, 1, 0, none, 0, 0, 0, 0⟩
def s1 (el : Nat → D) : SP := ⟨1, 1, 1, 1, 1, 1, some (1, el), 1, 1, 1, 1⟩
def s2 (el : Nat → D) : SP := ⟨2, 2, 1, 1, 1, 2, some (2, el), 2, 2, 1, 1⟩
def eqS (p q : SP) : Bool := p.s1 == q.s1 && p.s2 == q.s2 && p.s3 == q.s3 && p.s4 == q.s4 && p.g == q.g && p.num == q.num && p.o1 == q.o1 && p.o2 == q.o2 && p.o3 == q.o3 && p.o4 == q.o4
def mAt : Mo
  | [.ref 0 0, .d (.raw (.int .i64 i))], H => match spOf H with
    | some (p, b) => some (.ref (if i = 0 then 1 else if i = 1 then 3 else if i = 2 then 5 else 7) 0, H, [b = true, decide (0 ≤ i ∧ i ≤ 3) = true])
    | none => none
  | _, _ => none
/-- Of one shard. -/
def mSt1 : Mo
  | [.ref 0 0], [(0, t), (1, u)] => some (.d (.raw (.int .i64 (thI t))), [(0, t), (1, u)], [(sameT t (shT (thI t) 1) && sameT u taT) = true])
  | _, _ => none
def mGo (a b : Int) : Mo
  | [.ref 0 0], [(0, t), (1, u)] => some (.d (.raw (.int .i64 0)), shard0 b, [(sameT t (shT a 1) && sameT u taT) = true])
  | _, _ => none
def mTurn1 (a b : Int) : Mo
  | [.ref 0 0, .d (.raw (.int .i64 x)), .d (.raw (.int .i64 y))], [(0, t), (1, u)] => some (.d (.raw (.int .i64 0)), shard0 b, [(sameT t (shT a 1) && sameT u taT && x == a && y == b) = true])
  | _, _ => none
def O3 (a b : Int) : Orc := (Orc.none gz0).add 50 false (mTurn1 a b)
/-- Pack of a list of known texts, or of nil. -/
def mPackN (q : ByteArray) : Mo
  | [.d (.list 1 n el)], [] => some (.d (.raw (.string q)), [], [∃ r : List ByteArray, n = r.length ∧ (∀ i, i < n → el i = strEl r i) ∧ q = packB r ∧ (packL r).length ≤ 1073741824])
  | [.d (.raw (.slice none 0 0))], [] => some (.d (.raw (.string q)), [], [q = packB []])
  | _, _ => none
def conB : ByteArray := packB [packB []]
def mTabTxt : Mo
  | [.ref 0 0], [(0, u)] => some (.d (.raw (.string (packB []))), [(0, u)], [sameT u taT = true])
  | _, _ => none
def O4 : Orc := (Orc.none glP).add 20 true (mPackN (packB []))
def O5 (q : ByteArray) : Orc := (((Orc.none glP).add 20 true (mPackN q)).add 51 false mTabTxt).add 36 false mSt1
def mCon1 (q : ByteArray) : Mo
  | [.ref 0 0], [(0, t), (1, u)] => some (.d (.raw (.string q)), [(0, t), (1, u)], [(sameT t (shT 2 1) && sameT u taT) = true, q = conB])
  | _, _ => none
/-- Configurations. -/
def idxF : List Int → Int → Int → Int
  | [], _, _ => -1
  | g :: r, v, k => if g = v then k else idxF r v (k + 1)
def grpF : Int → List Int → Bool
  | _, [] => true
  | z, g :: r => decide (z < g ∧ 1 ≤ g ∧ g ≤ 4) && grpF g r
def ownM (l : List Int) (o : Int) : Bool := if l.length = 0 then decide (o = 0) else decide (0 ≤ idxF l o 0)
def chkC (n : Int) (l : List Int) (o1 o2 o3 o4 : Int) : Int := if 0 ≤ n ∧ n ≤ 1099511627776 ∧ grpF 0 l = true ∧ ownM l o1 = true ∧ ownM l o2 = true ∧ ownM l o3 = true ∧ ownM l o4 = true then 0 else 4
def mIdx (l : List Int) : Mo
  | [.d (.list 1 n el), .d (.raw (.int .i64 v))], [] => some (.d (.raw (.int .i64 (idxF l v 0))), [], [n = l.length, ∀ i, i < l.length → el i = intEl l i, l.length ≤ 1099511627776])
  | _, _ => none
def mHas (l : List Int) : Mo
  | [.d (.list 1 n el), .d (.raw (.int .i64 v))], [] => some (.d (.raw (.bool (decide (0 ≤ idxF l v 0)))), [], [n = l.length, ∀ i, i < l.length → el i = intEl l i, l.length ≤ 1099511627776])
  | _, _ => none
def mGrp : Mo
  | [.d (.raw (.int .i64 v))], [] => some (.d (.raw (.bool (decide (1 ≤ v ∧ v ≤ 4)))), [], [])
  | _, _ => none
def Q0 (l : List Int) : Orc := (Orc.none gz0).add 61 false (mIdx l)
def Q1 (l : List Int) : Orc := ((Orc.none gz0).add 49 false (mHas l)).add 48 false mGrp
def mChk (l : List Int) : Mo
  | [.d (.agg [.raw (.int .i64 n), .list 1 k el, .raw (.int .i64 o1), .raw (.int .i64 o2), .raw (.int .i64 o3), .raw (.int .i64 o4)])], [] => some (.d (.raw (.int .i64 (chkC n l o1 o2 o3 o4))), [], [k = l.length, ∀ i, i < l.length → el i = intEl l i, l.length ≤ 1099511627776])
  | _, _ => none
def mSetl : Mo
  | [.ref 0 0], H => match spOf H with
    | some (p, b) => match p.gr with
      | none => some (.d (.raw (.bool true)), H, [(b && eqS p s0) = true])
      | some (c, eg) => some (.d (.raw (.bool true)), H, [(b && eqS p (s1 eg) && c == 1) = true])
    | none => none
  | _, _ => none
def U0 : Orc := ((Orc.none gz0).add 32 false mAt).add 36 false mSt1
def U1 (l : List Int) (a b : Int) : Orc := ((((Orc.none gz0).add 32 false mAt).add 31 false mSetl).add 30 false (mChk l)).add 33 false (mGo 0 1)
def U2 (l : List Int) (a b : Int) : Orc := (U1 l a b).add 35 false (mGo 1 2)
end Go.Stk

namespace Go.Stk
open Go Go.Eng Go.Nest Go.Memo
set_option linter.unusedVariables false
def ix1 (l : List Int) (v n i : Int) : St := mk 0 19 [(0, .d (.list 1 (l.length) (intEl l))), (1, .d (.raw (.int .i64 v))), (7, .d (.raw (.int .i64 n))), (8, .d (.raw (.int .i64 i)))] []
def ck1 (l : List Int) (n o1 o2 o3 o4 z k i : Int) : St := mk 0 60 [(1, .ref 0 0), (3, .d (.raw (.int .i64 z))), (17, .d (.list 1 (l.length) (intEl l))), (18, .d (.raw (.int .i64 k))), (19, .d (.raw (.int .i64 i)))] [(0, .obj 46 [.d (.raw (.int .i64 n)), .d (.list 1 (l.length) (intEl l)), .d (.raw (.int .i64 o1)), .d (.raw (.int .i64 o2)), .d (.raw (.int .i64 o3)), .d (.raw (.int .i64 o4))])]
def agC (n : Int) (l : List Int) (o1 o2 o3 o4 : Int) : AV := .d (.agg [.raw (.int .i64 n), .list 1 l.length (intEl l), .raw (.int .i64 o1), .raw (.int .i64 o2), .raw (.int .i64 o3), .raw (.int .i64 o4)])
end Go.Stk

namespace Go.Nest
open Go Go.Eng Go.Proofs Go.RowKit Go.Shelf
set_option linter.unusedVariables false
set_option linter.all false
def laysAtoi_ren : Go.Shelf.Ren := ⟨fun | 172 => 45 | 244 => 59 | 245 => 60 | 247 => 68 | 279 => 69 | 280 => 70 | 281 => 71 | 282 => 72 | 287 => 80 | 316 => 81 | 171 => 43 | 205 => 82 | 321 => 89 | 322 => 90 | 243 => 56 | 246 => 66 | 283 => 75 | 284 => 76 | 285 => 77 | 286 => 78 | 129 => 84 | 317 => 83 | 318 => 85 | 319 => 86 | 320 => 87 | 337 => 91 | 338 => 92 | n => n, fun | 9 => 9 | 3 => 3 | 75 => 92 | 76 => 93 | 4 => 4 | 5 => 5 | 167 => 145 | 37 => 83 | 0 => 0 | 85 => 146 | 2 => 2 | 168 => 148 | 53 => 78 | 175 => 158 | 46 => 81 | 210 => 162 | 127 => 122 | 145 => 172 | 143 => 170 | 21 => 21 | 171 => 153 | 173 => 156 | 212 => 165 | 51 => 76 | 20 => 20 | 213 => 166 | 232 => 85 | 233 => 82 | 80 => 74 | n => n, fun | 15 => 2 | 16 => 3 | 17 => 4 | 18 => 6 | 19 => 7 | n => n⟩
def laysCut_ren : Go.Shelf.Ren := ⟨fun | 145 => 67 | 220 => 79 | 219 => 88 | 217 => 93 | 225 => 94 | 224 => 95 | 267 => 96 | 266 => 97 | 314 => 98 | n => n, fun | 9 => 9 | 4 => 4 | 59 => 143 | 3 => 3 | 5 => 5 | 46 => 81 | 146 => 175 | 51 => 76 | n => n, fun | 1 => 5 | n => n⟩
def laysItoaM_ren : Go.Shelf.Ren := ⟨fun | 171 => 43 | 243 => 56 | 246 => 66 | 283 => 75 | 284 => 76 | 285 => 77 | 286 => 78 | 129 => 84 | 317 => 83 | 318 => 85 | 319 => 86 | 320 => 87 | 337 => 91 | 338 => 92 | n => n, fun | 3 => 3 | 9 => 9 | 2 => 2 | 4 => 4 | 171 => 153 | 0 => 0 | 53 => 78 | 37 => 83 | 5 => 5 | 173 => 156 | 212 => 165 | 51 => 76 | 20 => 20 | 213 => 166 | 46 => 81 | 232 => 85 | 233 => 82 | n => n, fun | 17 => 4 | 18 => 6 | 19 => 7 | n => n⟩
theorem laysItoaM : Go.Proofs.LaysM.n171 Tryd.prog laysItoaM_ren where
  mixed := by kernel_rfl
  f129 := Tryd.func84.trans (congrArg some (by kernel_rfl))
  f171 := Tryd.func43.trans (congrArg some (by kernel_rfl))
  f243 := Tryd.func56.trans (congrArg some (by kernel_rfl))
  f246 := Tryd.func66.trans (congrArg some (by kernel_rfl))
  f283 := Tryd.func75.trans (congrArg some (by kernel_rfl))
  f284 := Tryd.func76.trans (congrArg some (by kernel_rfl))
  f285 := Tryd.func77.trans (congrArg some (by kernel_rfl))
  f286 := Tryd.func78.trans (congrArg some (by kernel_rfl))
  f317 := Tryd.func83.trans (congrArg some (by kernel_rfl))
  f318 := Tryd.func85.trans (congrArg some (by kernel_rfl))
  f319 := Tryd.func86.trans (congrArg some (by kernel_rfl))
  f320 := Tryd.func87.trans (congrArg some (by kernel_rfl))
  f337 := Tryd.func91.trans (congrArg some (by kernel_rfl))
  f338 := Tryd.func92.trans (congrArg some (by kernel_rfl))
  t0 := Tryd.underlying0
  a0 := Tryd.isAgg0
  z0 := Tryd.sizeOf0
  v0 := Tryd.zeroValue0
  t2 := Tryd.underlying2
  a2 := Tryd.isAgg2
  z2 := Tryd.sizeOf2
  v2 := Tryd.zeroValue2
  t3 := Tryd.underlying3
  a3 := Tryd.isAgg3
  z3 := Tryd.sizeOf3
  v3 := Tryd.zeroValue3
  t4 := Tryd.underlying4
  a4 := Tryd.isAgg4
  z4 := Tryd.sizeOf4
  v4 := Tryd.zeroValue4
  t5 := Tryd.underlying5
  a5 := Tryd.isAgg5
  z5 := Tryd.sizeOf5
  v5 := Tryd.zeroValue5
  t9 := Tryd.underlying9
  a9 := Tryd.isAgg9
  z9 := Tryd.sizeOf9
  v9 := Tryd.zeroValue9
  t20 := Tryd.underlying20
  a20 := Tryd.isAgg20
  z20 := Tryd.sizeOf20
  v20 := Tryd.zeroValue20
  t37 := Tryd.underlying83
  a37 := Tryd.isAgg83
  z37 := Tryd.sizeOf83
  v37 := Tryd.zeroValue83
  t46 := Tryd.underlying81
  a46 := Tryd.isAgg81
  z46 := Tryd.sizeOf81
  v46 := Tryd.zeroValue81
  t51 := Tryd.underlying76
  a51 := Tryd.isAgg76
  z51 := Tryd.sizeOf76
  v51 := Tryd.zeroValue76
  t53 := Tryd.underlying78
  a53 := Tryd.isAgg78
  z53 := Tryd.sizeOf78
  v53 := Tryd.zeroValue78
  t171 := Tryd.underlying153
  a171 := Tryd.isAgg153
  z171 := Tryd.sizeOf153
  v171 := Tryd.zeroValue153
  t173 := Tryd.underlying156
  a173 := Tryd.isAgg156
  z173 := Tryd.sizeOf156
  v173 := Tryd.zeroValue156
  t212 := Tryd.underlying165
  a212 := Tryd.isAgg165
  z212 := Tryd.sizeOf165
  v212 := Tryd.zeroValue165
  t213 := Tryd.underlying166
  a213 := Tryd.isAgg166
  z213 := Tryd.sizeOf166
  t232 := Tryd.underlying85
  a232 := Tryd.isAgg85
  z232 := Tryd.sizeOf85
  v232 := Tryd.zeroValue85
  t233 := Tryd.underlying82
  a233 := Tryd.isAgg82
  z233 := Tryd.sizeOf82
  v233 := Tryd.zeroValue82
  g17 := by kernel_rfl
  g18 := by kernel_rfl
  g19 := by kernel_rfl
  i0 := by kernel_rfl
  i2 := by kernel_rfl
  i3 := by kernel_rfl
  i4 := by kernel_rfl
  i5 := by kernel_rfl
  i9 := by kernel_rfl
  i20 := by kernel_rfl
  i37 := by kernel_rfl
  i46 := by kernel_rfl
  i51 := by kernel_rfl
  i53 := by kernel_rfl
  i171 := by kernel_rfl
  i173 := by kernel_rfl
  i212 := by kernel_rfl
  i232 := by kernel_rfl
  i233 := by kernel_rfl
  m17 := by kernel_rfl
  m18 := by kernel_rfl
  m19 := by kernel_rfl
/-- What is known of the library's variables, in every world from w on. -/
structure LibW (w : World) : Prop where
  tab : Lib.TabBelow Tryd.prog w.heap.size w "internal/strconv.uint64pow10" .u64 Lib.pow10Tab
  mx : ∃ m, w.cell? ⟨laysCut_ren.g 1, 0, none⟩ = some (.int .i64 m)
  es : ∃ ev, w.cell? ⟨laysAtoi_ren.g 15, 0, none⟩ = some ev ∧ (ev = .nilIface ∨ ∃ te pe, ev = .iface te pe)
  er : ∃ ev, w.cell? ⟨laysAtoi_ren.g 16, 0, none⟩ = some ev ∧ (ev = .nilIface ∨ ∃ te pe, ev = .iface te pe)
theorem LibW.below {w w' : World} (h : LibW w) (hb : Below w.heap.size w w') : LibW w' := by
  have key : ∀ (g : Nat) v, w.cell? ⟨g, 0, none⟩ = some v → w'.cell? ⟨g, 0, none⟩ = some v := fun g v hc => by
    have hg : g < w.heap.size := by
      unfold World.cell? at hc
      rcases Nat.lt_or_ge g w.heap.size with h | h
      · exact h
      · rw [show w.heap[g]? = none from Array.getElem?_eq_none (by omega)] at hc; cases hc
    exact (hb.cell (p := ⟨g, 0, none⟩) hg).trans hc
  obtain ⟨m, hm⟩ := h.mx
  obtain ⟨e1, h1, h1'⟩ := h.es
  obtain ⟨e2, h2, h2'⟩ := h.er
  refine ⟨fun w2 hb2 => h.tab w2 (hb.trans (hb2.mono hb.size)), ⟨m, key _ _ hm⟩, ⟨e1, key _ _ h1, h1'⟩, ⟨e2, key _ _ h2, h2'⟩⟩
/-- The table. -/
def LibT (w : World) : Prop := Lib.TabBelow Tryd.prog w.heap.size w "internal/strconv.uint64pow10" .u64 Lib.pow10Tab
theorem LibT.below {w w' : World} (h : LibT w) (hb : Below w.heap.size w w') : LibT w' := fun w2 hb2 => h w2 (hb.trans (hb2.mono hb.size))
theorem num_walk (n : Int) (h0 : -9223372036854775808 ≤ n) (h1 : n ≤ 9223372036854775807) (w : World) (hL : LibT w) : Calls Tryd.prog 21 #[.int .i64 n] w fun e w' => e = .returned (.string ⟨(Lib.itoa n).toArray⟩) ∧ Below w.heap.size w w' := by
  go_enter Tryd.func21, Tryd.ntmps21
  go_wp2_with (go_at_call 43; refine (Any.strconv_Itoa laysItoaM n h0 h1 _ (Lib.TabBelow.here hL)).mono ?_; rintro e w1 ⟨rfl, k, os, rfl⟩)
  go_ret
  exact ⟨rfl, Lib.below_grow _ w (Nat.le_refl _) k os⟩
theorem vcs_raw_inv {w : World} {N : Nat → Prop} : ∀ (vs us : List Value), VCs w N (vs.map D.raw) us → us = vs
  | [], us, h => by unfold VCs at h; exact h
  | v :: vs, us, h => by
    rw [List.map_cons] at h
    unfold VCs at h
    obtain ⟨a, b, rfl, _, h1, h2⟩ := h
    rw [vcs_raw_inv vs b h2]
    unfold VC at h1
    have := h1.1
    simp at this
    rw [this]
theorem libT_of {w : World} {N : Nat → Prop} (hg : ∀ g cs, glP g = some cs → N g ∧ ∃ us, VCs w N cs us ∧ (∀ j u, us[j]? = some u → w.cell? ⟨g, j, none⟩ = some u) ∧ (cs.length ≠ 1 → wholeOf w g = some us.toArray)) : LibT w := by
  obtain ⟨-, us, h3, h4, h5⟩ := hg 4 _ rfl
  have hu : us = Lib.pow10Tab.map (Value.int .u64) := vcs_raw_inv _ us (by rw [List.map_map]; exact h3)
  refine Lib.tabBelow_of_tabIs ?_
  have h6 := h5 (by decide)
  rw [hu] at h6
  unfold Lib.TabIs World.var?
  rw [show Tryd.prog.globalNamed "internal/strconv.uint64pow10" = some 4 from by kernel_rfl]
  exact h6
end Go.Nest

namespace Go.Nest
open Go Go.Eng Go.Proofs Go.RowKit
set_option linter.unusedVariables false
set_option linter.unusedSimpArgs false
set_option maxRecDepth 100000
set_option maxHeartbeats 4000000
end Go.Nest

namespace Go.Nest
open Go Go.Eng Go.Proofs Go.RowKit Go.Shelf
attribute [local go_sem] Oper.semAt_some
set_option linter.unusedVariables false
set_option linter.all false
end Go.Nest

namespace Go.Nest
open Go Go.Eng Go.Proofs Go.RowKit Go.Shelf
set_option linter.unusedVariables false
set_option linter.all false
end Go.Nest

namespace Go.Nest
open Go Go.Eng Go.Proofs Go.RowKit Go.Shelf
attribute [local go_sem] Oper.semAt_some
set_option linter.unusedVariables false
set_option linter.all false
end Go.Nest

namespace Go.Nest
open Go Go.Eng Go.Proofs Go.RowKit
set_option linter.unusedVariables false
set_option linter.all false
end Go.Nest
