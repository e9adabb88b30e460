/-
  Contracts of the given functions, and the statement's own walk. No condition.
-/
import Derived.Test.YticnclmadldkkaaAbs13
namespace Go.Ros
open Go Go.Abs
def right (F G C : Int) : Bool := decide (0 ≤ F ∧ F ≤ 3 ∧ 1 ≤ G ∧ G ≤ 4 ∧ 1 ≤ C ∧ C ≤ 8)
def onlyM (F G C x : Int) : Int := if right F G C then x else 0
def nM (F G C : Int) : Int := onlyM F G C (3 * F + 1)
def endsM (F G C : Int) : Int := onlyM F G C ((3 * F + 1) * (G + 1) + C)
def endM (F G C g i : Int) : Int × Int :=
  if right F G C then
    if g = -1 ∧ 0 ≤ i ∧ i < C then ((3 * F + 1) * (G + 1) + i, 0)
    else if 0 ≤ g ∧ g ≤ G ∧ 0 ≤ i ∧ i < 3 * F + 1 then ((3 * F + 1) * g + i, 0)
    else (0, 6)
  else (0, 1)
def partyM (F G C e : Int) : (Int × Int) × Int :=
  if right F G C then
    if e < 0 ∨ endsM F G C ≤ e then ((0, 0), 6)
    else if (3 * F + 1) * (G + 1) ≤ e then ((-1, e - (3 * F + 1) * (G + 1)), 0)
    else ((e / (3 * F + 1), e % (3 * F + 1)), 0)
  else ((0, 0), 1)
def primM (F G C v : Int) : Int × Int := if right F G C ∧ 0 ≤ v ∧ v ≤ 1099511627776 then (v % (3 * F + 1), 0) else (0, 1)
/-- The first k replicas' ends. -/
def endsL (F G C g f : Int) (k : Nat) : List Int :=
  (List.range k).filterMap fun (i : Nat) => if (endM F G C g i).2 = 0 ∧ (i : Int) ≠ f then some (endM F G C g i).1 else none
def groupL (F G C g f : Int) : List Int := endsL F G C g f (nM F G C).toNat
def ros (F G C : Int) : D := .agg [I F, I G, I C]
def pty (g n : Int) : D := .agg [I g, I n]
def m8 : List D → Option (Ret × List Prop)
  | [.agg [.raw (.int .i64 F), .raw (.int .i64 G), .raw (.int .i64 C)]] => some (.one (I (if right F G C then 0 else 1)), [])
  | _ => none
def m26 : List D → Option (Ret × List Prop)
  | [.agg [.raw (.int .i64 F), .raw (.int .i64 G), .raw (.int .i64 C)], .raw (.int .i64 x)] => some (.one (I (onlyM F G C x)), [])
  | _ => none
def m10 : List D → Option (Ret × List Prop)
  | [.agg [.raw (.int .i64 F), .raw (.int .i64 G), .raw (.int .i64 C)]] => some (.one (I (nM F G C)), [])
  | _ => none
def m16 : List D → Option (Ret × List Prop)
  | [.agg [.raw (.int .i64 F), .raw (.int .i64 G), .raw (.int .i64 C)]] => some (.one (I (endsM F G C)), [])
  | _ => none
def m19 : List D → Option (Ret × List Prop)
  | [.agg [.raw (.int .i64 F), .raw (.int .i64 G), .raw (.int .i64 C)], .agg [.raw (.int .i64 g), .raw (.int .i64 i)]] => some (.tup [I (endM F G C g i).1, I (endM F G C g i).2], [])
  | _ => none
def m28 : List D → Option (Ret × List Prop)
  | [.raw (.int .i64 f), .raw (.int .i64 i)] => some (.one (Bo (i != f)), [])
  | _ => none
def m27 : List D → Option (Ret × List Prop)
  | [.agg [.raw (.int .i64 F), .raw (.int .i64 G), .raw (.int .i64 C)], .raw (.int .i64 g), .raw (.func (.func 28) fs ps)] =>
    match fs.toList, ps.toList with
    | [.int .i64 f], [] => some (.one (L 1 I (groupL F G C g f)), [])
    | _, _ => none
  | _ => none
def fn28 (f : Int) : D := .raw (.func (.func 28) #[.int .i64 f] #[])
def S27 (F G C g f k : Int) (xs : List Int) : St :=
  mk 37 [(1, .d (I g)), (2, .d (fn28 f)), (3, .ref 3 0), (7, .own 34), (12, .d (I (nM F G C))), (13, .d (I k))] [(3, ⟨23, [.d (I F), .d (I G), .d (I C)]⟩)] [(34, LRow 3 1 I xs)]
def O8 : Orc := Orc.none.add 8 m8
def O26 : Orc := O8.add 26 m26
def O10 : Orc := O26.add 10 m10
def O16 : Orc := O10.add 16 m16
def O19 : Orc := O16.add 19 m19
def O28 : Orc := O19.add 28 m28
def O27 : Orc := O28.add 27 m27
def m20 : List D → Option (Ret × List Prop)
  | [.agg [.raw (.int .i64 F), .raw (.int .i64 G), .raw (.int .i64 C)], .raw (.int .i64 g)] => some (.one (L 1 I (if g < 0 then [] else groupL F G C g (-1))), [])
  | _ => none
def m24 : List D → Option (Ret × List Prop)
  | [a, b] => match a.asList 1, b.asList 1 with
    | some (n, el), some (m, el') => some (.one (Bo (unL unI n el == unL unI m el')), [IsL I unI n el, IsL I unI m el'])
    | _, _ => none
  | _ => none
def needM (F G C : Int) : Int := onlyM F G C (2 * F + 1)
def someM (F G C : Int) : Int := onlyM F G C (F + 1)
def m11 : List D → Option (Ret × List Prop)
  | [.agg [.raw (.int .i64 F), .raw (.int .i64 G), .raw (.int .i64 C)]] => some (.one (I (needM F G C)), [])
  | _ => none
def m12 : List D → Option (Ret × List Prop)
  | [.agg [.raw (.int .i64 F), .raw (.int .i64 G), .raw (.int .i64 C)]] => some (.one (I (someM F G C)), [])
  | _ => none
def m9 : List D → Option (Ret × List Prop)
  | [] => some (.one (Bo true), [])
  | _ => none
def O20 : Orc := O27.add 20 m20
def O24 : Orc := O20.add 24 m24
def O11 : Orc := O24.add 11 m11
def O12 : Orc := O11.add 12 m12
def O9 : Orc := O12.add 9 m9
/-- A party, as a pair. -/
def Pt (x : Int × Int) : D := .agg [I x.1, I x.2]
def unP : D → Int × Int
  | .agg [.raw (.int _ g), .raw (.int _ n)] => (g, n)
  | _ => default
def rowL (F : Int) (g : Nat) (i : Nat) : List (Int × Int) := (List.range i).map fun (j : Nat) => ((g : Int), (j : Int))
def fullL (F : Int) (g : Nat) : List (Int × Int) := (List.range g).flatMap fun h => rowL F h (3 * F + 1).toNat
def clientsL (i : Nat) : List (Int × Int) := (List.range i).map fun (j : Nat) => ((-1 : Int), (j : Int))
def endsRef (F G C : Int) : List (Int × Int) := if right F G C then fullL F (G + 1).toNat ++ clientsL C.toNat else []
def endR (l : List (Int × Int)) (p : Int × Int) : Int × Int := if l = [] then (0, 1) else if (l.idxOf p) < l.length then ((l.idxOf p : Nat), 0) else (0, 6)
def partyR (l : List (Int × Int)) (e : Int) : (Int × Int) × Int := if l = [] then ((0, 0), 1) else if e < 0 ∨ (l.length : Int) ≤ e then ((0, 0), 6) else (l.getD e.toNat default, 0)
def groupR (l : List (Int × Int)) (g but : Int) (k : Nat) : List Int := (List.range k).filterMap fun i => if (l.getD i default).1 = g ∧ 0 ≤ g ∧ (l.getD i default).2 ≠ but then some (i : Int) else none
def othersM (F G C g n : Int) : List Int := if (endM F G C g n).2 ≠ 0 ∨ g < 0 then [] else groupL F G C g n
def m18 : List D → Option (Ret × List Prop)
  | [.agg [.raw (.int .i64 F), .raw (.int .i64 G), .raw (.int .i64 C)], .raw (.int .i64 e)] => some (.tup [Pt (partyM F G C e).1, I (partyM F G C e).2], [])
  | _ => none
def m13 : List D → Option (Ret × List Prop)
  | [.agg [.raw (.int .i64 F), .raw (.int .i64 G), .raw (.int .i64 C)], .raw (.int .i64 v)] => some (.tup [I (primM F G C v).1, I (primM F G C v).2], [])
  | _ => none
def m14 : List D → Option (Ret × List Prop)
  | [.raw (.int .i64 F), .raw (.int .i64 G), .raw (.int .i64 C)] => some (.one (Bo (right F G C)), [])
  | _ => none
def m15 : List D → Option (Ret × List Prop)
  | [.raw (.int .i64 F), .raw (.int .i64 G), .raw (.int .i64 C), .raw (.int .i64 v)] => some (.tup [I (primM F G C v).1, I (primM F G C v).2], [])
  | _ => none
def m17 : List D → Option (Ret × List Prop)
  | [.raw (.int .i64 F), .raw (.int .i64 G), .raw (.int .i64 C)] => some (.one (L 2 Pt (endsRef F G C)), [])
  | _ => none
def m21 : List D → Option (Ret × List Prop)
  | [l, .agg [.raw (.int .i64 g), .raw (.int .i64 i)]] => match l.asList 2 with
    | some (n, el) => some (.tup [I (endR (unL unP n el) (g, i)).1, I (endR (unL unP n el) (g, i)).2], [IsL Pt unP n el])
    | _ => none
  | _ => none
def m22 : List D → Option (Ret × List Prop)
  | [l, .raw (.int .i64 e)] => match l.asList 2 with
    | some (n, el) => some (.tup [Pt (partyR (unL unP n el) e).1, I (partyR (unL unP n el) e).2], [IsL Pt unP n el])
    | _ => none
  | _ => none
def m23 : List D → Option (Ret × List Prop)
  | [l, .raw (.int .i64 g), .raw (.int .i64 b)] => match l.asList 2 with
    | some (n, el) => some (.one (L 1 I (groupR (unL unP n el) g b n)), [IsL Pt unP n el, n ≤ 1000])
    | _ => none
  | _ => none
def m25 : List D → Option (Ret × List Prop)
  | [.agg [.raw (.int .i64 F), .raw (.int .i64 G), .raw (.int .i64 C)], .agg [.raw (.int .i64 g), .raw (.int .i64 n)]] => some (.one (L 1 I (othersM F G C g n)), [])
  | _ => none
def O18 : Orc := O9.add 18 m18
def O13 : Orc := O18.add 13 m13
def O14 : Orc := O13.add 14 m14
def O15 : Orc := O14.add 15 m15
def O17 : Orc := O15.add 17 m17
def O21 : Orc := O17.add 21 m21
def O22 : Orc := O21.add 22 m22
def O23 : Orc := O22.add 23 m23
def O25 : Orc := O23.add 25 m25
def S17o (F G C g : Int) (xs : List (Int × Int)) : St :=
  mk 45 [(0, .d (I F)), (1, .d (I G)), (2, .d (I C)), (7, .own 33), (8, .d (I g))] [] [(33, LRow 40 2 Pt xs)]
def S17 (F G C g i : Int) (xs : List (Int × Int)) : St :=
  mk 45 [(0, .d (I F)), (1, .d (I G)), (2, .d (I C)), (7, .own 33), (8, .d (I g)), (9, .d (I i))] [] [(33, LRow 40 2 Pt xs)]
def S17c (F G C i : Int) (xs : List (Int × Int)) : St :=
  mk 45 [(0, .d (I F)), (1, .d (I G)), (2, .d (I C)), (7, .own 33), (10, .d (I i))] [] [(33, LRow 40 2 Pt xs)]
def S17e (F G C i : Int) (xs : List (Int × Int)) : St :=
  mk 45 [(0, .d (I F)), (1, .d (I G)), (2, .d (I C)), (7, .own 43), (10, .d (I i))] [] [(43, LRow 40 2 Pt xs)]
def S21 (xs : List (Int × Int)) (g i k : Int) : St := mk 23 [(3, .ref 3 0), (11, .d (L 2 Pt xs)), (12, .d (I xs.length)), (13, .d (I k))] [(3, ⟨40, [.d (I g), .d (I i)]⟩)] []
def S23 (xs : List (Int × Int)) (g b k : Int) (ys : List Int) : St := mk 37 [(1, .d (I g)), (2, .d (I b)), (7, .own 34), (10, .d (L 2 Pt xs)), (11, .d (I xs.length)), (12, .d (I k))] [] [(34, LRow 3 1 I ys)]
def S6 (e g n x f : Int) (b : Bool) (xs : List Int) (k : Int) : St := mk 65 [(1, .d (I e)), (5, .ref 5 0), (7, .d (I x)), (8, .d (I f)), (9, .d (Bo b)), (35, .d (L 1 I xs)), (36, .d (I xs.length)), (37, .d (I k))] [(5, ⟨40, [.d (I g), .d (I n)]⟩)] []
def S24 (xs ys : List Int) (k : Int) : St := mk 32 [(0, .d (L 1 I xs)), (1, .d (L 1 I ys)), (7, .d (I xs.length)), (8, .d (I k))] [] []
def S3 (F G C a b x y z k : Int) : St := mk 86 [(1, .d (I a)), (2, .d (I b)), (3, .ref 3 0), (7, .d (I x)), (8, .d (I y)), (9, .d (I z)), (10, .d (I k))] [(3, ⟨23, [.d (I F), .d (I G), .d (I C)]⟩)] []
end Go.Ros
