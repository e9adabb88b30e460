/-
  Contracts of given functions, or plain laws that they need. No condition.
-/
import Derived.Test.YtfpiccepphiaaaaDoorRowB
import Derived.Test.YtfpiccepphiaaaaDoorMemM
namespace Go.Memo
open Go Go.Eng Go.Nest
set_option linter.unusedVariables false
abbrev MoOK (P : Program) (gl : Nat → Option (List D)) (f : FuncId) (mo : Mo) : Prop := ∀ args H r H' cs, mo args H = some (r, H', cs) → Conds cs → Eng.Spec P gl f args H r H'
theorem MoOK.any {P : Program} {gl : Nat → Option (List D)} {f : FuncId} {mo : Mo} (h : MoOK P (fun _ => none) f mo) : MoOK P gl f mo := fun args H r H' cs h1 h2 => Spec.glAny (h args H r H' cs h1 h2)
theorem MoOK.up {P : Program} {gl gl' : Nat → Option (List D)} {f : FuncId} {mo : Mo} (hg : ∀ g cs, gl g = some cs → gl' g = some cs) (h : MoOK P gl f mo) : MoOK P gl' f mo := fun args H r H' cs h1 h2 => Spec.mono hg (h args H r H' cs h1 h2)
theorem all2 {el : Nat → D} {r : List ByteArray} (h0 : el 0 = strEl r 0) (h1 : el 1 = strEl r 1) : ∀ i, i < 2 → el i = strEl r i
  | 0, _ => h0 | 1, _ => h1
  | i + 2, h => absurd h (by omega)
theorem all3 {el : Nat → D} {r : List ByteArray} (h0 : el 0 = strEl r 0) (h1 : el 1 = strEl r 1) (h2 : el 2 = strEl r 2) : ∀ i, i < 3 → el i = strEl r i
  | 0, _ => h0 | 1, _ => h1 | 2, _ => h2
  | i + 3, h => absurd h (by omega)
theorem all4 {el : Nat → D} {r : List ByteArray} (h0 : el 0 = strEl r 0) (h1 : el 1 = strEl r 1) (h2 : el 2 = strEl r 2) (h3 : el 3 = strEl r 3) : ∀ i, i < 4 → el i = strEl r i
  | 0, _ => h0 | 1, _ => h1 | 2, _ => h2 | 3, _ => h3
  | i + 4, h => absurd h (by omega)
theorem all5 {el : Nat → D} {r : List ByteArray} (h0 : el 0 = strEl r 0) (h1 : el 1 = strEl r 1) (h2 : el 2 = strEl r 2) (h3 : el 3 = strEl r 3) (h4 : el 4 = strEl r 4) : ∀ i, i < 5 → el i = strEl r i
  | 0, _ => h0 | 1, _ => h1 | 2, _ => h2 | 3, _ => h3 | 4, _ => h4
  | i + 5, h => absurd h (by omega)
theorem all6 {el : Nat → D} {r : List ByteArray} (h0 : el 0 = strEl r 0) (h1 : el 1 = strEl r 1) (h2 : el 2 = strEl r 2) (h3 : el 3 = strEl r 3) (h4 : el 4 = strEl r 4) (h5 : el 5 = strEl r 5) : ∀ i, i < 6 → el i = strEl r i
  | 0, _ => h0 | 1, _ => h1 | 2, _ => h2 | 3, _ => h3 | 4, _ => h4 | 5, _ => h5
  | i + 6, h => absurd h (by omega)
def mNum : Mo
  | [.d (.raw (.int .i64 n))], [] => some (.d (.raw (.string (numJ n))), [], [-9223372036854775808 ≤ n ∧ n < 9223372036854775808])
  | _, _ => none
/-- Pack of a list of known texts. -/
def mPackV (q : ByteArray) : Mo
  | [.d (.list 1 n el)], [] => some (.d (.raw (.string q)), [], [∃ r : List ByteArray, n = r.length ∧ (∀ i, i < n → el i = strEl r i) ∧ q = packB r ∧ (packL r).length ≤ 1073741824])
  | _, _ => none
def mPackRV (q : ByteArray) : Mo
  | [.own 0], [(0, .row T 1 n el)] => some (.d (.raw (.string q)), [(0, .row T 1 n el)], [T = 9, ∃ r : List ByteArray, n = r.length ∧ (∀ i, i < n → el i = strEl r i) ∧ q = packB r ∧ (packL r).length ≤ 1073741824])
  | _, _ => none
def mToNum : Mo
  | [.d (.raw (.string t))], [] => some (.tup [.d (.raw (.int .i64 (numM t).1)), .d (.raw (.int .i64 (numM t).2))], [], [t.size ≤ 1073741824])
  | _, _ => none
end Go.Memo

namespace Go.Stk
open Go Go.Eng Go.Nest Go.Memo
set_option linter.unusedVariables false
def hB : ByteArray := ⟨#[104, 97, 110, 100]⟩
def tB : ByteArray := ⟨#[116, 111, 111, 107]⟩
def rightC (n i : Int) : Bool := decide (0 ≤ n ∧ n ≤ 1099511627776 ∧ 0 ≤ i ∧ i ≤ 3)
def wordC (k : Bool) : ByteArray := if k = true then tB else hB
def packC (k : Bool) (n i : Int) (t : ByteArray) : List ByteArray := [wordC k, numJ n, numJ i, t]
/-- A claim's text. -/
def claimM (k : Bool) (n i : Int) (t : ByteArray) : ByteArray × Int :=
  if rightC n i = true then (if k = true ∧ t.size ≠ 0 then (ByteArray.empty, 4) else if 30000 < t.size ∨ 30000 < (packB (packC k n i t)).size then (ByteArray.empty, 2) else (packB (packC k n i t), 0)) else (ByteArray.empty, 1)
structure Cl where
  k : Bool
  n : Int
  i : Int
  t : ByteArray
def readQ (r : List ByteArray) : Cl := ⟨decide (at' r 0 = tB), (numM (at' r 1)).1, (numM (at' r 2)).1, at' r 3⟩
def readC (s : ByteArray) : Cl × Int := if (unpR s).2 = 0 ∧ (unpR s).1.length = 4 ∧ claimM (readQ (unpR s).1).k (readQ (unpR s).1).n (readQ (unpR s).1).i (readQ (unpR s).1).t = (s, 0) then (readQ (unpR s).1, 0) else (⟨false, 0, 0, ByteArray.empty⟩, 4)
theorem claim_zero {k : Bool} {n i : Int} {t : ByteArray} (h : (claimM k n i t).2 = 0) : rightC n i = true ∧ ¬ (k = true ∧ t.size ≠ 0) ∧ t.size ≤ 30000 ∧ (packB (packC k n i t)).size ≤ 30000 ∧ claimM k n i t = (packB (packC k n i t), 0) := by
  unfold claimM at h ⊢
  split at h
  · rename_i h1
    rw [if_pos h1]
    split at h
    · cases h
    · rename_i h2
      rw [if_neg h2]
      split at h
      · cases h
      · rename_i h3
        rw [if_neg h3]
        exact ⟨h1, h2, by omega, by omega, rfl⟩
  · cases h
theorem packC_small {k : Bool} {n i : Int} {t : ByteArray} (h : rightC n i = true) (ht : t.size ≤ 30000) : ∀ x ∈ packC k n i t, x.size ≤ 30000 := by
  have hb : 0 ≤ n ∧ n ≤ 1099511627776 ∧ 0 ≤ i ∧ i ≤ 3 := of_decide_eq_true h
  have a1 := itoa_len n (by omega)
  have a2 := itoa_len i (by omega)
  have a0 : (wordC k).size = 4 := by unfold wordC; split <;> rfl
  intro x hx
  simp only [packC, List.mem_cons, List.not_mem_nil, or_false] at hx
  rcases hx with rfl | rfl | rfl | rfl <;> omega
theorem packC_len {k : Bool} {n i : Int} {t : ByteArray} (h : rightC n i = true) (ht : t.size ≤ 30000) : (packL (packC k n i t)).length ≤ 100000 := by
  have hb : 0 ≤ n ∧ n ≤ 1099511627776 ∧ 0 ≤ i ∧ i ≤ 3 := of_decide_eq_true h
  have a1 := itoa_len n (by omega)
  have a2 := itoa_len i (by omega)
  have a0 : (wordC k).size = 4 := by unfold wordC; split <;> rfl
  unfold packC
  have b1 := pack_len1 (wordC k) [numJ n, numJ i, t] (by omega)
  have b2 := pack_len1 (numJ n) [numJ i, t] (by omega)
  have b3 := pack_len1 (numJ i) [t] (by omega)
  have b4 := pack_len1 t [] (by omega)
  have b7 : (packL []).length = 0 := rfl
  omega
theorem list4 {r : List ByteArray} (h : r.length = 4) : r = [at' r 0, at' r 1, at' r 2, at' r 3] := by
  rcases r with _ | ⟨a, _ | ⟨b, _ | ⟨c, _ | ⟨d, _ | ⟨e, r⟩⟩⟩⟩⟩ <;> simp at h
  rfl
/-- What a claim's text is read as. -/
theorem read_claim {k : Bool} {n i : Int} {t : ByteArray} (h : (claimM k n i t).2 = 0) : readC (claimM k n i t).1 = (⟨k, n, i, t⟩, 0) := by
  obtain ⟨h1, h2, h3, h4, h5⟩ := claim_zero h
  have hb : 0 ≤ n ∧ n ≤ 1099511627776 ∧ 0 ≤ i ∧ i ≤ 3 := of_decide_eq_true h1
  have eu : unpR (packB (packC k n i t)) = (packC k n i t, 0) := unpR_pack _ fun x hx => by have := packC_small h1 h3 x hx; omega
  have er : readQ (packC k n i t) = ⟨k, n, i, t⟩ := by
    unfold readQ packC
    have e0 : at' [wordC k, numJ n, numJ i, t] 0 = wordC k := rfl
    have e1 : at' [wordC k, numJ n, numJ i, t] 1 = numJ n := rfl
    have e2 : at' [wordC k, numJ n, numJ i, t] 2 = numJ i := rfl
    have e3 : at' [wordC k, numJ n, numJ i, t] 3 = t := rfl
    rw [e0, e1, e2, e3, num_numJ (by omega), num_numJ (by omega)]
    have : decide (wordC k = tB) = k := by cases k <;> decide
    rw [this]
  rw [h5]
  unfold readC
  rw [eu, er, if_pos ⟨rfl, rfl, h5⟩]
/-- The reference's reading, and ours. -/
def okC (r : List ByteArray) : Prop := (at' r 0 = hB ∨ at' r 0 = tB) ∧ (numM (at' r 1)).2 = 0 ∧ (numM (at' r 2)).2 = 0 ∧ rightC (numM (at' r 1)).1 (numM (at' r 2)).1 = true ∧ ¬ (at' r 0 = tB ∧ (at' r 3).size ≠ 0)
theorem read_ok {s : ByteArray} (hs : s.size < 1000000000) (h1 : (unpR s).2 = 0) (h2 : (unpR s).1.length = 4) : claimM (readQ (unpR s).1).k (readQ (unpR s).1).n (readQ (unpR s).1).i (readQ (unpR s).1).t = (s, 0) ↔ okC (unpR s).1 ∧ s.size ≤ 30000 := by
  have hsz : ∀ x ∈ (unpR s).1, x.size < 1000000000 := fun x hx => Nat.lt_of_le_of_lt (unp_mem h1 x hx) hs
  have hle := unp_mem h1
  have hinv := unpR_inv h1
  have hl := list4 h2
  generalize (unpR s).1 = r at *
  constructor
  · intro h
    obtain ⟨c1, c2, c3, c4, c5⟩ := claim_zero (congrArg Prod.snd h)
    rw [h] at c5
    have e0 := congrArg Prod.fst c5
    have e0 : s = packB (packC (readQ r).k (readQ r).n (readQ r).i (readQ r).t) := e0
    have hs2 : s.size ≤ 30000 := by rw [e0]; exact c4
    rw [hinv] at e0
    have e := pack_inj e0 hsz (fun x hx => by have := packC_small c1 c3 x hx; omega)
    have q0 : at' r 0 = wordC (readQ r).k := (congrArg (fun l => at' l 0) e).trans rfl
    have q1 : at' r 1 = numJ (readQ r).n := (congrArg (fun l => at' l 1) e).trans rfl
    have q2 : at' r 2 = numJ (readQ r).i := (congrArg (fun l => at' l 2) e).trans rfl
    have hb : 0 ≤ (readQ r).n ∧ (readQ r).n ≤ 1099511627776 ∧ 0 ≤ (readQ r).i ∧ (readQ r).i ≤ 3 := of_decide_eq_true c1
    refine ⟨⟨?_, ?_, ?_, c1, ?_⟩, hs2⟩
    · rw [q0]; unfold wordC; split
      · exact .inr rfl
      · exact .inl rfl
    · rw [q1, num_numJ (by omega)]
    · rw [q2, num_numJ (by omega)]
    · rintro ⟨h3, h4⟩
      exact c2 ⟨decide_eq_true h3, h4⟩
  · rintro ⟨⟨g1, g2, g3, g4, g5⟩, hs2⟩
    have e : packC (readQ r).k (readQ r).n (readQ r).i (readQ r).t = [at' r 0, at' r 1, at' r 2, at' r 3] := by
      unfold packC
      have w0 : wordC (readQ r).k = at' r 0 := by
        show wordC (decide (at' r 0 = tB)) = at' r 0
        rcases g1 with g | g
        · rw [g]; decide
        · rw [g]; decide
      rw [w0, show numJ (readQ r).n = at' r 1 from (numM_ok g2).symm, show numJ (readQ r).i = at' r 2 from (numM_ok g3).symm]
      rfl
    have hp : packB (packC (readQ r).k (readQ r).n (readQ r).i (readQ r).t) = s := by rw [e, ← hl, ← hinv]
    have h3 : (readQ r).t.size ≤ 30000 := by
      have : at' r 3 ∈ r := by rw [hl]; simp [at']
      have := hle _ this
      exact Nat.le_trans this hs2
    have g4 : rightC (readQ r).n (readQ r).i = true := g4
    unfold claimM
    rw [if_pos g4, if_neg (fun h => g5 ⟨of_decide_eq_true h.1, h.2⟩), hp, if_neg (by omega)]
end Go.Stk

namespace Go.Stk
open Go Go.Eng Go.Nest Go.Memo
set_option linter.unusedVariables false
def wrongM (k : Bool) (n j : Int) (q : Bool) : Bool := !rightC n j || !(k == q)
def mWrong : Mo
  | [.d (.agg [.raw (.bool k), .raw (.int .i64 n), .raw (.int .i64 j), .raw (.string t)]), .d (.raw (.bool q))], [] => some (.d (.raw (.bool (wrongM k n j q))), [], [])
  | _, _ => none
def mCT (q : ByteArray) (c : Int) : Mo
  | [.d (.agg [.raw (.bool k), .raw (.int .i64 n), .raw (.int .i64 j), .raw (.string t)])], [] => some (.tup [.d (.raw (.string q)), .d (.raw (.int .i64 c))], [], [q = (claimM k n j t).1, c = (claimM k n j t).2])
  | _, _ => none
def K0 (p : ByteArray) : Orc := (((Orc.none glP).add 19 false mWrong).add 21 false mNum).add 20 true (mPackV p)
def K1 (m : Int) (e1 e2 : Value) (r : List ByteArray) (f : Int) (q : ByteArray) (c : Int) : Orc := (((Orc.none (glU m e1 e2)).add 25 false (mUnpV r f)).add 26 false mToNum).add 8 false (mCT q c)
abbrev gz : Nat → Option (List D) := fun _ => none
def mRightR : Mo
  | [.d (.agg [.raw (.bool k), .raw (.int .i64 n), .raw (.int .i64 j), .raw (.string t)])], [] => some (.d (.raw (.bool (rightC n j))), [], [])
  | _, _ => none
def mPackR (r : List ByteArray) (q : ByteArray) : Mo
  | [.own 0], [(0, .row T 1 n el)] => some (.d (.raw (.string q)), [(0, .row T 1 n (strEl r))], [T = 9, n = r.length ∧ (∀ i, i < n → el i = strEl r i) ∧ q = packB r ∧ (packL r).length ≤ 1073741824])
  | _, _ => none
def K2 (r : List ByteArray) (p : ByteArray) : Orc := (((Orc.none gz).add 22 false mRightR).add 24 false mNum).add 23 false (mPackR r p)
def K3 (r : List ByteArray) (f : Int) : Orc := (((Orc.none gz).add 27 false (mUnpV r f)).add 28 false mToNum).add 22 false mRightR
end Go.Stk
