/-
  Contracts of given functions, or plain laws that they need. No condition.
-/
import Derived.Test.YtbppcjkpkelbfaaDoorPrzG
import Derived.Test.YtbppcjkpkelbfaaDoorRmA
namespace Go.Prf
open Go Go.Eng Go.Proofs Go.RowKit Go.Tab Go.Plc
set_option linter.unusedVariables false
set_option linter.unusedSimpArgs false
def badB (c b : Ca) : Bool := b.cl == c.cl && (decide (b.n ≥ c.n) || b.to == -1 || decide (b.to > c.fr))
def oneM (cs : List Ca) (k : Nat) : Bool := !badC (cs.getD k noCa) && !(cs.take k).any (badB (cs.getD k noCa))
def fnd (p : Pt) : List Ca → Int → Int
  | [], _ => -1
  | c :: r, i => if (c.cl == p.cl && c.n == p.n) = true then i else fnd p r (i + 1)
def sameP (p q : Pt) : Bool := q.cl == p.cl && q.n == p.n
def callF (cs : List Ca) (p : Pt) : Ca := cs.getD (fnd p cs 0).toNat noCa
def badT (cs : List Ca) (p : Pt) : Bool := decide (fnd p cs 0 < 0) || decide (p.at' < (callF cs p).fr) || ((callF cs p).to != -1 && decide (p.at' > (callF cs p).to))
def badM (ps : List Pt) (k : Nat) : Bool := decide ((ps.getD k noPt).at' < 0) || (decide (0 < k) && decide ((ps.getD (k - 1) noPt).at' > (ps.getD k noPt).at'))
def twoM (cs : List Ca) (ps : List Pt) (k : Nat) : Bool := !badM ps k && !badT cs (ps.getD k noPt) && !(ps.take k).any (sameP (ps.getD k noPt))
def there (ps : List Pt) (c : Ca) : Bool := c.to == -1 || ps.any fun p => p.cl == c.cl && p.n == c.n
def thereM (cs : List Ca) (ps : List Pt) (k : Nat) : Bool := there ps (cs.getD k noCa)
def firstB (f : Nat → Bool) : Nat → Nat → Int
  | 0, _ => -1
  | d + 1, i => if f i = true then firstB f d (i + 1) else i
def wrongR (cs : List Ca) (T : T4) (p : Pt) : Bool := !eqcs [.int .i64 (tellM T (callF cs p).o).1, .string (tellM T (callF cs p).o).2] [.int .i64 p.a.1, .string p.a.2] || ((callF cs p).to != -1 && !eqcs [.int .i64 (tellM T (callF cs p).o).1, .string (tellM T (callF cs p).o).2] [.int .i64 (callF cs p).a.1, .string (callF cs p).a.2])
def tdR (cs : List Ca) : T4 → List Pt → Int → Int
  | _, [], _ => -1
  | T, p :: r, i => if wrongR cs T p = true then i else tdR cs (nextT T (callF cs p).o) r (i + 1)
def refM (cs : List Ca) (ps : List Pt) : Int × Int × Int :=
  if 2000 < cs.length ∨ 2000 < ps.length then (0, 0, 2)
  else if 0 ≤ firstB (oneM cs) cs.length 0 then (1, firstB (oneM cs) cs.length 0, 0)
  else if 0 ≤ firstB (twoM cs ps) ps.length 0 then (2, firstB (twoM cs ps) ps.length 0, 0)
  else if 0 ≤ firstB (thereM cs ps) cs.length 0 then (3, firstB (thereM cs ps) cs.length 0, 0)
  else if 0 ≤ tdR cs T0 ps 0 then (4, tdR cs T0 ps 0, 0) else (0, 0, 0)
theorem getD_at {α : Type} (pre : List α) (x : α) (r : List α) (d : α) : (pre ++ x :: r).getD pre.length d = x := by simp [List.getD]
theorem take_at {α : Type} (pre r : List α) : (pre ++ r).take pre.length = pre := by simp
theorem badC_to {c : Ca} (h : badC c = false) : c.to ≠ -1 → c.fr ≤ c.to := by
  intro hne
  unfold badC at h
  simp only [Bool.or_eq_false_iff, Bool.and_eq_false_iff, decide_eq_false_iff_not] at h
  rcases h.1.2 with h | h
  · rw [bne_eq_false_iff_eq] at h; exact absurd h hne
  · omega
theorem badB_false {c b : Ca} (he : b.cl = c.cl) (h : badB c b = false) : b.n < c.n ∧ b.to ≠ -1 ∧ b.to ≤ c.fr := by
  unfold badB at h
  rw [he, beq_self_eq_true, Bool.true_and] at h
  simp only [Bool.or_eq_false_iff, decide_eq_false_iff_not, beq_eq_false_iff_ne] at h
  exact ⟨by omega, h.1.2, by omega⟩
theorem badB_true {c b : Ca} (he : b.cl = c.cl) (h1 : b.n < c.n) (h2 : b.to ≠ -1) (h3 : b.to ≤ c.fr) : badB c b = false := by
  unfold badB
  rw [decide_eq_false (by omega), decide_eq_false (by omega), beq_eq_false_iff_ne.2 h2, Bool.or_false, Bool.or_false, Bool.and_false]
theorem hasC_cons (b : Ca) (L : List Ca) (cl : Int) : hasC (b :: L) (.raw (.int .i64 cl)) = (cl == b.cl || hasC L (.raw (.int .i64 cl))) := rfl
theorem badL_any (c : Ca) : ∀ L : List Ca, (∀ b ∈ L, badC b = false) → L.Pairwise (fun b b' => badB b b' = false) → badL L c = L.any (badB c)
  | [], _, _ => rfl
  | b :: l, hg, hp => by
    obtain ⟨h1, h2⟩ := List.pairwise_cons.1 hp
    have ih := badL_any c l (fun x hx => hg x (List.mem_cons_of_mem _ hx)) h2
    rw [List.any_cons]
    by_cases he : c.cl = b.cl
    · have e1 : badL (b :: l) c = badB c b := by
        unfold badL badB
        rw [hasC_cons, getC_cons, if_pos he, he, beq_self_eq_true, Bool.true_or]
      rw [e1]
      cases hb : badB c b with
      | true => rfl
      | false =>
        rw [Bool.false_or]
        symm
        rw [List.any_eq_false]
        intro x hx hxb
        obtain ⟨b1, b2, b3⟩ := badB_false he.symm hb
        by_cases hxe : x.cl = c.cl
        · obtain ⟨x1, x2, x3⟩ := badB_false (hxe.trans he) (h1 x hx)
          have := badC_to (hg b List.mem_cons_self) b2
          rw [badB_true hxe (by omega) x2 (by omega)] at hxb
          exact absurd hxb (by decide)
        · unfold badB at hxb
          rw [beq_eq_false_iff_ne.2 hxe, Bool.false_and] at hxb
          cases hxb
    · have e0 : badB c b = false := by
        unfold badB
        rw [beq_eq_false_iff_ne.2 (fun e => he e.symm)]; rfl
      rw [e0, Bool.false_or, ← ih]
      unfold badL
      rw [hasC_cons, getC_cons, if_neg he, beq_eq_false_iff_ne.2 he, Bool.false_or]
theorem r1_eq : ∀ (cs' pre : List Ca), (∀ b ∈ pre, badC b = false) → pre.reverse.Pairwise (fun b b' => badB b b' = false) → firstB (oneM (pre ++ cs')) cs'.length pre.length = fmF pre.reverse cs' (pre.length : Int)
  | [], _, _, _ => rfl
  | c :: r, pre, hg, hp => by
    have ea := badL_any c pre.reverse (fun b hb => hg b (List.mem_reverse.1 hb)) hp
    rw [List.any_reverse] at ea
    have eo : oneM (pre ++ c :: r) pre.length = !(badC c || badL pre.reverse c) := by
      unfold oneM; rw [getD_at, take_at, ea, Bool.not_or]
    rw [List.length_cons, firstB, fmF, eo]
    cases hb : (badC c || badL pre.reverse c) with
    | true => rfl
    | false =>
      simp only [Bool.or_eq_false_iff] at hb
      have ih := r1_eq r (pre ++ [c]) (fun b hm => by
        rcases List.mem_append.1 hm with hm | hm
        · exact hg b hm
        · rw [List.mem_singleton.1 hm]; exact hb.1) (by
        rw [List.reverse_append]
        refine List.pairwise_cons.2 ⟨fun b hm => ?_, hp⟩
        have h2 := hb.2
        rw [ea, List.any_eq_false] at h2
        have := h2 b (List.mem_reverse.1 hm)
        simpa using this)
      rw [List.append_assoc, List.length_append, List.reverse_append] at ih
      exact ih
theorem rule1 (cs : List Ca) : firstB (oneM cs) cs.length 0 = fmF [] cs 0 := r1_eq cs [] (fun b h => by cases h) List.Pairwise.nil
theorem fnd_get (p : Pt) : ∀ (cs : List Ca) (i : Int), 0 ≤ i → (fnd p cs i = -1 ∧ ∀ c ∈ cs, ¬(c.cl = p.cl ∧ c.n = p.n)) ∨ ∃ (k : Nat) (c : Ca), fnd p cs i = i + k ∧ cs[k]? = some c ∧ c.cl = p.cl ∧ c.n = p.n
  | [], _, _ => .inl ⟨rfl, fun c h => by cases h⟩
  | c :: r, i, h0 => by
    rw [fnd]
    split
    · rename_i hb
      rw [Bool.and_eq_true] at hb
      exact .inr ⟨0, c, by omega, rfl, eq_of_beq hb.1, eq_of_beq hb.2⟩
    · rename_i hb
      rcases fnd_get p r (i + 1) (by omega) with ⟨h1, h2⟩ | ⟨k, d, e1, e2, e3⟩
      · refine .inl ⟨h1, fun d hd => ?_⟩
        rcases List.mem_cons.1 hd with rfl | hd
        · intro e; exact hb (by rw [e.1, e.2, beq_self_eq_true, beq_self_eq_true]; rfl)
        · exact h2 d hd
      · exact .inr ⟨k + 1, d, by rw [e1]; omega, e2, e3⟩
theorem fnd_none {p : Pt} {cs : List Ca} (h : hasN cs.reverse (nmD p.cl p.n) = false) : fnd p cs 0 = -1 := by
  rcases fnd_get p cs 0 (by omega) with ⟨h1, -⟩ | ⟨k, c, e1, e2, e3, e4⟩
  · exact h1
  · unfold hasN at h
    rw [List.any_eq_false] at h
    exact absurd (by rw [key_nm, e3, e4, beq_self_eq_true, beq_self_eq_true]; rfl) (h c (List.mem_reverse.2 (List.mem_of_getElem? e2)))
theorem fnd_some {p : Pt} {cs : List Ca} (hp : cs.Pairwise (fun a b => a.cl = b.cl → a.n < b.n)) (h : hasN cs.reverse (nmD p.cl p.n) = true) : 0 ≤ fnd p cs 0 ∧ callF cs p = getN cs.reverse (nmD p.cl p.n) := by
  obtain ⟨g1, g2, g3⟩ := getN_name h
  rcases fnd_get p cs 0 (by omega) with ⟨h1, h2⟩ | ⟨k, c, e1, e2, e3, e4⟩
  · exact absurd ⟨g2, g3⟩ (h2 _ (List.mem_reverse.1 g1))
  · refine ⟨by omega, ?_⟩
    have : callF cs p = c := by
      unfold callF
      rw [e1, show ((0 : Int) + k).toNat = k by omega, List.getD, e2]; rfl
    rw [this]
    exact uniq hp (List.mem_of_getElem? e2) (List.mem_reverse.1 g1) (e3.trans g2.symm) (e4.trans g3.symm)
theorem hasS_any (pre : List Pt) (p : Pt) : hasS pre.reverse (nmD p.cl p.n) = pre.any (sameP p) := by
  unfold hasS
  rw [List.any_reverse]
  congr 1
  funext q
  unfold sameP
  rw [key_nm, Bool.beq_comm, Bool.beq_comm (a := p.n)]
theorem two_eqR {cs : List Ca} (hp : cs.Pairwise (fun a b => a.cl = b.cl → a.n < b.n)) (pre r : List Pt) (p : Pt) (now : Int) (hn : now = match pre.getLast? with | none => 0 | some q => q.at') (h0 : 0 ≤ now) :
    twoM cs (pre ++ p :: r) pre.length = !ordB cs.reverse pre.reverse now p := by
  have em : badM (pre ++ p :: r) pre.length = decide (p.at' < now) := by
    unfold badM
    rw [getD_at]
    rcases List.eq_nil_or_concat pre with rfl | ⟨q, x, rfl⟩
    · rw [hn, show decide (0 < ([] : List Pt).length) = false from rfl, Bool.false_and, Bool.or_false]
      rfl
    · have hx : now = x.at' := by rw [hn]; simp
      rw [hx] at h0 ⊢
      have e : ((q.concat x) ++ p :: r).getD ((q.concat x).length - 1) noPt = x := by
        rw [List.concat_eq_append, List.append_assoc, List.length_append]; exact getD_at q x _ _
      rw [e]
      by_cases hlt : p.at' < x.at'
      · rw [decide_eq_true (show x.at' > p.at' from hlt), Bool.and_true, decide_eq_true (show 0 < (q.concat x).length by rw [List.length_concat]; omega), Bool.or_true]
      · rw [decide_eq_false (show ¬ x.at' > p.at' from hlt), Bool.and_false, decide_eq_false (by omega)]; rfl
  unfold twoM
  rw [em, getD_at, take_at]
  unfold ordB badT
  rw [hasS_any]
  cases hh : hasN cs.reverse (nmD p.cl p.n) with
  | false => rw [fnd_none hh]; simp
  | true =>
    obtain ⟨f1, f2⟩ := fnd_some hp hh
    rw [f2, decide_eq_false (by omega : ¬ fnd p cs 0 < 0)]
    generalize decide (p.at' < now) = b1
    generalize pre.any (sameP p) = b2
    generalize decide (p.at' < (getN cs.reverse (nmD p.cl p.n)).fr) = b3
    generalize ((getN cs.reverse (nmD p.cl p.n)).to != -1 && decide (p.at' > (getN cs.reverse (nmD p.cl p.n)).to)) = b4
    cases b1 <;> cases b2 <;> cases b3 <;> cases b4 <;> rfl
theorem r2_eq {cs : List Ca} (hp : cs.Pairwise (fun a b => a.cl = b.cl → a.n < b.n)) : ∀ (ps' pre : List Pt) (now : Int), (now = match pre.getLast? with | none => 0 | some q => q.at') → 0 ≤ now → firstB (twoM cs (pre ++ ps')) ps'.length pre.length = orF cs.reverse pre.reverse now ps' (pre.length : Int)
  | [], _, _, _, _ => rfl
  | p :: r, pre, now, hn, h0 => by
    rw [List.length_cons, firstB, orF, two_eqR hp pre r p now hn h0]
    cases hb : ordB cs.reverse pre.reverse now p with
    | true => rfl
    | false =>
      have hle : now ≤ p.at' := by
        unfold ordB at hb
        simp only [Bool.or_eq_false_iff, decide_eq_false_iff_not] at hb
        have := hb.1.1.1.1
        omega
      have ih := r2_eq hp r (pre ++ [p]) p.at' (by simp) (by omega)
      rw [List.append_assoc, List.length_append, List.reverse_append] at ih
      exact ih
theorem there_eq (ps : List Pt) (c : Ca) : there ps c = !(c.to != -1 && !hasS (ps.reverse ++ []) (nmD c.cl c.n)) := by
  unfold there hasS
  rw [List.append_nil, List.any_reverse, bne]
  have : (fun p : Pt => p.cl == c.cl && p.n == c.n) = fun p => keyEq (nmD c.cl c.n) (nmD p.cl p.n) := by
    funext p; rw [key_nm, Bool.beq_comm, Bool.beq_comm (a := p.n)]
  rw [this]
  cases (c.to == -1) <;> simp
theorem r3_eq (ps : List Pt) : ∀ (cs' pre : List Ca), firstB (thereM (pre ++ cs') ps) cs'.length pre.length = awF (ps.reverse ++ []) cs' (pre.length : Int)
  | [], _ => rfl
  | c :: r, pre => by
    rw [List.length_cons, firstB, awF]
    unfold thereM
    rw [getD_at, there_eq]
    cases hb : (c.to != -1 && !hasS (ps.reverse ++ []) (nmD c.cl c.n)) with
    | true => rfl
    | false =>
      have ih := r3_eq ps r (pre ++ [c])
      rw [List.append_assoc, List.length_append] at ih
      exact ih
theorem r4_eq (cs : List Ca) : ∀ (ps : List Pt), (∀ p ∈ ps, callF cs p = getN cs.reverse (nmD p.cl p.n)) → ∀ (T : T4) (i : Int), tdR cs T ps i = tdF cs.reverse T ps i
  | [], _, _, _ => rfl
  | p :: r, h, T, i => by
    rw [tdR, tdF, r4_eq cs r (fun q hq => h q (List.mem_cons_of_mem _ hq))]
    unfold wrongR wrongT
    rw [h p List.mem_cons_self]
theorem ref_eq (cs : List Ca) (ps : List Pt) : refM cs ps = checkP cs ps := by
  unfold refM checkP
  by_cases hl : 2000 < cs.length ∨ 2000 < ps.length
  · rw [if_pos hl, if_pos hl]
  rw [if_neg hl, if_neg hl, rule1]
  by_cases h1 : 0 ≤ fmF [] cs 0
  · rw [if_pos h1, if_pos h1]
  rw [if_neg h1, if_neg h1]
  have hpw := (fm_pw cs [] 0 (by omega) (fun b h => by cases h) (by omega)).2
  have e2 : firstB (twoM cs ps) ps.length 0 = orF cs.reverse [] 0 ps 0 := r2_eq hpw ps [] 0 rfl (by omega)
  have e3 : firstB (thereM cs ps) cs.length 0 = awF (ps.reverse ++ []) cs 0 := r3_eq ps cs []
  rw [e2, e3]
  by_cases h2 : 0 ≤ orF cs.reverse [] 0 ps 0
  · rw [if_pos h2, if_pos h2]
  rw [if_neg h2, if_neg h2]
  obtain ⟨o1, -⟩ := or_pw cs.reverse ps [] 0 0 (by omega) (by omega)
  rw [r4_eq cs ps (fun p hm => (fnd_some hpw (o1 p hm).2.1).2)]
end Go.Prf

namespace Go.Prf
open Go Go.Eng Go.Tab Go.Plc
set_option linter.unusedVariables false
def ptC (p : Pt) : List AV := [.d (.raw (.int .i64 p.at')), .d (.raw (.int .i64 p.cl)), .d (.raw (.int .i64 p.n)), .d (.raw (.int .i64 p.a.1)), .d (.raw (.string p.a.2))]
def fi1 (p : Pt) (cs : List Ca) (n i : Int) : St := mk 0 28 [(3, .ref 0 0), (7, .d (.list 10 cs.length (caEl cs))), (8, .d (.raw (.int .i64 (n)))), (9, .d (.raw (.int .i64 (i))))] [(0, .obj 53 (ptC p))]
def mFind (cs : List Ca) (f : Int) : Mo
  | [.d (.list s k el), .d (.agg [.raw (.int .i64 m), .raw (.int .i64 c), .raw (.int .i64 n), .raw (.int .i64 er), .raw (.string v)])], [] => some (.d (.raw (.int .i64 f)), [], [s = 10, k = cs.length, el = caEl cs, cs.length ≤ 1000000 ∧ f = fnd ⟨m, c, n, (er, v)⟩ cs 0])
  | _, _ => none
end Go.Prf

namespace Go.Prf
open Go Go.Eng Go.Proofs Go.RowKit Go.Tab Go.Plc
set_option linter.unusedVariables false
set_option linter.unusedSimpArgs false
abbrev noAn : An := (0, ByteArray.empty)
def wrA (wr i : Int) (a : An) : An := if (i == wr) = true then (a.1, a.2 ++ ByteArray.mk #[33]) else a
def mkC (l : List OpT) (an : List An) (wr : Int) (k : Nat) : Ca := ⟨(k : Int).tmod 8, k + 1, l.getD k noOp, 3 * k, 3 * k + 2, wrA wr k (an.getD k noAn)⟩
def mkQ (l : List OpT) (an : List An) (wr : Int) (k : Nat) : Pt := ⟨3 * k + 1, (k : Int).tmod 8, k + 1, wrA wr k (an.getD k noAn)⟩
def accC (l : List OpT) (an : List An) (wr : Int) (k : Nat) : List Ca := (List.range k).map (mkC l an wr)
def accP (l : List OpT) (an : List An) (wr : Int) (k : Nat) : List Pt := (List.range k).map (mkQ l an wr)
section
variable {l : List OpT} {an : List An} {wr : Int} {n k : Nat}
theorem accC_len : (accC l an wr n).length = n := by unfold accC; rw [List.length_map, List.length_range]
theorem accP_len : (accP l an wr n).length = n := by unfold accP; rw [List.length_map, List.length_range]
theorem accC_succ : accC l an wr (n + 1) = accC l an wr n ++ [mkC l an wr n] := by unfold accC; rw [List.range_succ, List.map_append]; rfl
theorem accP_succ : accP l an wr (n + 1) = accP l an wr n ++ [mkQ l an wr n] := by unfold accP; rw [List.range_succ, List.map_append]; rfl
theorem accC_opt : (accC l an wr n)[k]? = if k < n then some (mkC l an wr k) else none := by
  unfold accC
  rw [List.getElem?_map]
  split
  · rename_i h; rw [List.getElem?_range h]; rfl
  · rename_i h; rw [List.getElem?_eq_none (by rw [List.length_range]; omega)]; rfl
theorem accC_get (h : k < n) : (accC l an wr n).getD k noCa = mkC l an wr k := by rw [List.getD, accC_opt, if_pos h]; rfl
theorem accP_get (h : k < n) : (accP l an wr n).getD k noPt = mkQ l an wr k := by
  unfold accP
  rw [List.getD, List.getElem?_map, List.getElem?_range h]; rfl
theorem accC_mem {c : Ca} (h : c ∈ (accC l an wr n).take k) : ∃ j, j < k ∧ j < n ∧ c = mkC l an wr j := by
  unfold accC at h
  rw [← List.map_take, List.take_range] at h
  obtain ⟨j, hj, rfl⟩ := List.mem_map.1 h
  have := List.mem_range.1 hj
  exact ⟨j, by omega, by omega, rfl⟩
theorem accP_mem {c : Pt} (h : c ∈ (accP l an wr n).take k) : ∃ j, j < k ∧ j < n ∧ c = mkQ l an wr j := by
  unfold accP at h
  rw [← List.map_take, List.take_range] at h
  obtain ⟨j, hj, rfl⟩ := List.mem_map.1 h
  have := List.mem_range.1 hj
  exact ⟨j, by omega, by omega, rfl⟩
theorem firstB_all {f : Nat → Bool} : ∀ (d i : Nat), (∀ k, i ≤ k → k < i + d → f k = true) → firstB f d i = -1
  | 0, _, _ => rfl
  | d + 1, i, h => by
    rw [firstB, if_pos (h i (Nat.le_refl _) (by omega))]
    exact firstB_all d (i + 1) fun k h1 h2 => h k (by omega) (by omega)
theorem tmod8 (k : Nat) : 0 ≤ (k : Int).tmod 8 ∧ (k : Int).tmod 8 ≤ 7 := by
  rw [Int.tmod_eq_emod_of_nonneg (by omega)]; omega
theorem one_one (hn : n ≤ 100) (hc : ∀ j, j < n → checkM (l.getD j noOp).1 (l.getD j noOp).2.1 (l.getD j noOp).2.2.1 (l.getD j noOp).2.2.2 = 0) (h : k < n) : oneM (accC l an wr n) k = true := by
  unfold oneM
  rw [accC_get h]
  have h1 : badC (mkC l an wr k) = false := by
    have ht := tmod8 k
    unfold badC mkC
    rw [hc k h]
    simp only [Bool.or_eq_false_iff, Bool.and_eq_false_iff, decide_eq_false_iff_not, bne_eq_false_iff_eq, beq_eq_false_iff_ne]
    refine ⟨⟨⟨⟨⟨⟨⟨?_, ?_⟩, ?_⟩, ?_⟩, trivial⟩, ?_⟩, .inr ?_⟩, .inl ?_⟩ <;> omega
  have h2 : ((accC l an wr n).take k).any (badB (mkC l an wr k)) = false := by
    rw [List.any_eq_false]
    intro c hm
    obtain ⟨j, hj, -, rfl⟩ := accC_mem hm
    unfold badB mkC
    simp only [Bool.and_eq_true, Bool.or_eq_true, decide_eq_true_eq, beq_iff_eq]
    omega
  rw [h1, h2]; rfl
theorem fnd_one (h : k < n) : fnd (mkQ l an wr k) (accC l an wr n) 0 = k := by
  rcases fnd_get (mkQ l an wr k) (accC l an wr n) 0 (by omega) with ⟨-, h2⟩ | ⟨j, c, e1, e2, -, e4⟩
  · exact absurd ⟨rfl, rfl⟩ (h2 (mkC l an wr k) (List.mem_map.2 ⟨k, List.mem_range.2 h, rfl⟩))
  · rw [accC_opt] at e2
    split at e2
    · cases e2
      have : (j : Int) + 1 = k + 1 := e4
      omega
    · cases e2
theorem callF_one (h : k < n) : callF (accC l an wr n) (mkQ l an wr k) = mkC l an wr k := by
  unfold callF
  rw [fnd_one h, Int.toNat_natCast, accC_get h]
theorem two_one (h : k < n) : twoM (accC l an wr n) (accP l an wr n) k = true := by
  unfold twoM
  rw [accP_get h]
  have h1 : badM (accP l an wr n) k = false := by
    unfold badM
    rw [accP_get h]
    by_cases h0 : 0 < k
    · rw [accP_get (by omega : k - 1 < n)]
      unfold mkQ
      simp only [Bool.or_eq_false_iff, Bool.and_eq_false_iff, decide_eq_false_iff_not]
      exact ⟨by omega, .inr (by omega)⟩
    · unfold mkQ
      simp only [Bool.or_eq_false_iff, Bool.and_eq_false_iff, decide_eq_false_iff_not]
      exact ⟨by omega, .inl h0⟩
  have h2 : badT (accC l an wr n) (mkQ l an wr k) = false := by
    unfold badT
    rw [callF_one h, fnd_one h]
    unfold mkQ mkC
    simp only [Bool.or_eq_false_iff, Bool.and_eq_false_iff, decide_eq_false_iff_not]
    exact ⟨⟨by omega, by omega⟩, .inr (by omega)⟩
  have h3 : ((accP l an wr n).take k).any (sameP (mkQ l an wr k)) = false := by
    rw [List.any_eq_false]
    intro c hm
    obtain ⟨j, hj, -, rfl⟩ := accP_mem hm
    unfold sameP mkQ
    simp only [Bool.and_eq_true, beq_iff_eq]
    omega
  rw [h1, h2, h3]; rfl
theorem there_one (h : k < n) : thereM (accC l an wr n) (accP l an wr n) k = true := by
  unfold thereM there
  rw [accC_get h, Bool.or_eq_true, List.any_eq_true]
  refine .inr ⟨mkQ l an wr k, List.mem_map.2 ⟨k, List.mem_range.2 h, rfl⟩, ?_⟩
  unfold mkQ mkC
  rw [beq_self_eq_true, beq_self_eq_true]; rfl
theorem eqcs_self (a : An) : eqcs [.int .i64 a.1, .string a.2] [.int .i64 a.1, .string a.2] = true := by
  simp only [eqcs, eqc, beq_self_eq_true, Bool.true_and]
  exact beq_self_eq_true (a := a.2.data)
theorem eqcs_more (a : An) (b : ByteArray) (hb : b.size ≠ 0) : eqcs [.int .i64 a.1, .string a.2] [.int .i64 a.1, .string (a.2 ++ b)] = false := by
  cases h : eqcs [.int .i64 a.1, .string a.2] [.int .i64 a.1, .string (a.2 ++ b)] with
  | false => rfl
  | true =>
    have h1 := congrArg (fun x : An => x.2.size) (eqcs_an (a := a) (b := (a.1, a.2 ++ b)) h)
    have h2 : a.2.size = (a.2 ++ b).size := h1
    rw [ByteArray.size_append] at h2
    omega
theorem wrong_one (h : k < n) (T : T4) (ha : an.getD k noAn = tellM T (l.getD k noOp)) : wrongR (accC l an wr n) T (mkQ l an wr k) = ((k : Int) == wr) := by
  unfold wrongR
  rw [callF_one h]
  unfold mkC mkQ wrA
  rw [ha]
  show (!eqcs _ _ || (_ && !eqcs _ _)) = _
  cases hw : ((k : Int) == wr) with
  | true =>
    simp only [if_true]
    rw [eqcs_more _ _ (by decide)]; rfl
  | false =>
    simp only [Bool.false_eq_true, if_false]
    rw [eqcs_self, Bool.not_true, Bool.and_false]; rfl
theorem td_one (n : Nat) (hl : l.length = n) : ∀ (d k : Nat) (T : T4), k + d = n → an.drop k = repF T (l.drop k) → tdR (accC l an wr n) T ((accP l an wr n).drop k) k = if (k : Int) ≤ wr ∧ wr < n then wr else -1
  | 0, k, T, hk, _ => by
    rw [List.drop_eq_nil_of_le (by rw [accP_len]; omega), tdR, if_neg (by omega)]
  | d + 1, k, T, hk, ha => by
    have hkn : k < n := by omega
    rw [getD_drop (d := noPt) (by rw [accP_len]; omega), accP_get hkn]
    rw [getD_drop (d := noOp) (by omega : k < l.length), repF] at ha
    have hlt : k < an.length := by
      have h1 := congrArg List.length ha
      rw [List.length_drop, List.length_cons] at h1
      omega
    rw [getD_drop (d := noAn) hlt] at ha
    have ha1 : an.getD k noAn = tellM T (l.getD k noOp) := (List.cons.inj ha).1
    have ha2 := (List.cons.inj ha).2
    rw [tdR, wrong_one hkn T ha1, callF_one hkn]
    have ih := td_one n hl d (k + 1) (nextT T (l.getD k noOp)) (by omega) ha2
    rw [show (((k + 1 : Nat)) : Int) = (k : Int) + 1 by omega] at ih
    have eo : (mkC l an wr k).o = l.getD k noOp := rfl
    rw [eo, ih]
    cases hw : ((k : Int) == wr) with
    | true =>
      have := eq_of_beq hw
      rw [if_pos rfl, if_pos (by omega)]; exact this
    | false =>
      have := ne_of_beq_false hw
      rw [if_neg (by decide)]
      by_cases h3 : (k : Int) + 1 ≤ wr ∧ wr < n
      · rw [if_pos h3, if_pos (by omega)]
      · rw [if_neg h3, if_neg (by omega)]
theorem one_law (wr : Int) (hl : l.length ≤ 100) (hc : ∀ j, j < l.length → checkM (l.getD j noOp).1 (l.getD j noOp).2.1 (l.getD j noOp).2.2.1 (l.getD j noOp).2.2.2 = 0) (ha : an = repF T0 l) :
    checkP (accC l an wr l.length) (accP l an wr l.length) = if 0 ≤ wr ∧ wr < l.length then (4, wr, 0) else (0, 0, 0) := by
  rw [← ref_eq]
  unfold refM
  rw [accC_len, accP_len, if_neg (by omega)]
  rw [firstB_all l.length 0 (fun k _ h => one_one hl hc (by omega)), if_neg (by decide)]
  rw [firstB_all l.length 0 (fun k _ h => two_one (by omega)), if_neg (by decide)]
  rw [firstB_all l.length 0 (fun k _ h => there_one (by omega)), if_neg (by decide)]
  have h := td_one (l := l) (an := an) (wr := wr) l.length rfl l.length 0 T0 (by omega) (by rw [ha]; rfl)
  rw [List.drop_zero] at h
  have h' : tdR (accC l an wr l.length) T0 (accP l an wr l.length) 0 = if 0 ≤ wr ∧ wr < (l.length : Int) then wr else -1 := h
  rw [h']
  by_cases hw : 0 ≤ wr ∧ wr < (l.length : Int)
  · rw [if_pos hw, if_pos hw.1, if_pos hw]
  · rw [if_neg hw, if_neg hw, if_neg (by decide)]
end
theorem tell_err (T : T4) (o : OpT) : 0 ≤ (tellM T o).1 ∧ (tellM T o).1 ≤ 999 := by
  unfold tellM resM doM checkM
  repeat' split
  all_goals (dsimp only; constructor <;> decide)
theorem rep_err : ∀ (l : List OpT) (T : T4) (a : An), a ∈ repF T l → 0 ≤ a.1 ∧ a.1 ≤ 999
  | [], _, _, h => by cases h
  | o :: r, T, a, h => by
    rcases List.mem_cons.1 h with rfl | h
    · exact tell_err T o
    · exact rep_err r _ a h
end Go.Prf

namespace Go.Prf
open Go Go.Eng Go.Tab Go.Plc
set_option linter.unusedVariables false
def N0 (l : List OpT) (an : List An) (cs : List Ca) (ps : List Pt) (r : Int × Int × Int) : Orc := (((((Orc.none gB).add 19 true (mChkP cs ps r)).add 24 false (mRepl l an)).add 25 false (mOps l)).add 23 false mChk).add 18 false mReads
def qo1 (l : List OpT) (wr n i : Int) : St := mk 0 142 [(0, .d (.list 4 l.length (opEl l))), (1, .d (.raw (.int .i64 wr))), (21, .d (.list 4 l.length (opEl l))), (22, .d (.raw (.int .i64 (n)))), (23, .d (.raw (.int .i64 (i))))] []
def qo2 (l : List OpT) (an : List An) (wr : Int) (ac : List Ca) (ap : List Pt) (n i : Int) : St := mk 0 142 [(0, .d (.list 4 l.length (opEl l))), (1, .d (.raw (.int .i64 wr))), (7, .d (.list 2 an.length (anEl an))), (8, .own 0), (9, .own 1), (35, .d (.list 4 l.length (opEl l))), (36, .d (.raw (.int .i64 (n)))), (37, .d (.raw (.int .i64 (i))))] [(0, .row 51 10 ac.length (caEl ac)), (1, .row 56 5 ap.length (ptEl ap))]
def qo3 (l : List OpT) (an : List An) (wr : Int) (ac : List Ca) (ap : List Pt) (n i : Int) (o : OpT) (e : Int) (v : ByteArray) (k : Int) : St := mk 0 142 [(0, .d (.list 4 l.length (opEl l))), (1, .d (.raw (.int .i64 wr))), (7, .d (.list 2 an.length (anEl an))), (8, .own 0), (9, .own 1), (10, .d (.raw (.int .i64 (i)))), (11, .ref 2 0), (12, .ref 3 0), (13, .d (.raw (.int .i64 (k)))), (35, .d (.list 4 l.length (opEl l))), (36, .d (.raw (.int .i64 (n)))), (37, .d (.raw (.int .i64 (i))))] [(0, .row 51 10 ac.length (caEl ac)), (1, .row 56 5 ap.length (ptEl ap)), (2, .obj 47 [.d (.raw (.int .i64 o.1)), .d (.raw (.string o.2.1)), .d (.raw (.string o.2.2.1)), .d (.raw (.string o.2.2.2))]), (3, .obj 49 [.d (.raw (.int .i64 (e))), .d (.raw (.string (v)))])]
end Go.Prf

namespace Go.Prf
open Go Go.Eng Go.Proofs Go.Tab Go.Plc
set_option linter.unusedVariables false
set_option linter.unusedSimpArgs false
set_option maxRecDepth 100000
set_option maxHeartbeats 4000000
abbrev GoOn (w0 : World) (N : Nat → Prop) (E0 : Env) (s : St) (r : Bool) : Prop := ∀ (E : Env) (a : Act) (w : World), Sim (cx Tryd.prog gz0 w0 N E0 []) E s a w → Goes Tryd.prog 45 (loopAt Tryd.f45 0) (RSpec (cx Tryd.prog gz0 w0 N E0 []) ⟨0, [.d (.raw (.bool r))], []⟩) a w
abbrev GoFi (w0 : World) (N : Nat → Prop) (E0 : Env) (s : St) (r : Int) : Prop := ∀ (E : Env) (a : Act) (w : World), Sim (cx Tryd.prog gz0 w0 N E0 []) E s a w → Goes Tryd.prog 47 (loopAt Tryd.f47 0) (RSpec (cx Tryd.prog gz0 w0 N E0 []) ⟨0, [.d (.raw (.int .i64 r))], []⟩) a w
theorem fi_go {w0 : World} {N : Nat → Prop} {E0 : Env} (p : Pt) (cs : List Ca) (hl : cs.length ≤ 1000000) : ∀ (d : Nat) (n i : Int), n = (cs.length : Int) → 0 ≤ i → i + d = n → GoFi w0 N E0 (fi1 p cs n i) (fnd p (cs.drop i.toNat) i) := by
  intro d
  induction d with
  | zero =>
    intro n i en h0 hd E a w hsim
    have hr : fnd p (cs.drop i.toNat) i = -1 := by rw [List.drop_eq_nil_of_le (by omega)]; rfl
    rw [hr]
    rcases bd (decide (i < n)) with hb1 | hb1
    ·
     rcases bd ((cs.getD i.toNat noCa).cl == p.cl) with hb2 | hb2
     ·
      rcases bd ((cs.getD i.toNat noCa).n == p.n) with hb3 | hb3
      ·
       exact absurd (of_decide_eq_true hb1) (by omega)
      ·
       exact absurd (of_decide_eq_true hb1) (by omega)
     ·
      exact absurd (of_decide_eq_true hb1) (by omega)
    ·
     exact gr (OrcOK.none _) Tryd.func47 (sr' := ⟨0, [vI ((-1 : Int))], []⟩) (cs := [_]) [false] true ⟨hb1, trivial⟩ (by rfl) hsim
  | succ d ih =>
    intro n i en h0 hd E a w hsim
    have hi : i.toNat < cs.length := by omega
    have ew : IntKind.i64.wrap (i + 1) = i + 1 := wrapP (by omega)
    have hr : fnd p (cs.drop i.toNat) i = if ((cs.getD i.toNat noCa).cl == p.cl && (cs.getD i.toNat noCa).n == p.n) = true then i else fnd p (cs.drop (IntKind.i64.wrap (i + 1)).toNat) (IntKind.i64.wrap (i + 1)) := by
      rw [getD_drop (d := noCa) hi, ew, show (i + 1).toNat = i.toNat + 1 by omega]; rfl
    have ih := ih n (IntKind.i64.wrap (i + 1)) en (by rw [ew]; omega) (by rw [ew]; omega)
    rw [hr]
    rcases bd (decide (i < n)) with hb1 | hb1
    ·
     rcases bd ((cs.getD i.toNat noCa).cl == p.cl) with hb2 | hb2
     ·
      rcases bd ((cs.getD i.toNat noCa).n == p.n) with hb3 | hb3
      ·
       exact gr (OrcOK.none _) Tryd.func47 (sr' := ⟨0, [vI i], []⟩) (cs := [_, ((0 : Int) ≤ i ∧ i < (↑cs.length : Int)), _, _]) [true, true, true] true ⟨hb1, by omega, hb2, hb3, trivial⟩ (by (rw [if_pos (by { clear hsim ih hr; (try dsimp only at *); generalize cs.getD i.toNat noCa = c at *; simp_all })]; done)) hsim
      ·
       refine gh (OrcOK.none _) (k' := loopAt Tryd.f47 0) (s' := mk 0 28 [(3, .ref 0 0), (7, .d (.list 10 cs.length (caEl cs))), (8, vI n), (9, vI (IntKind.i64.wrap (i + 1)))] [(0, .obj 53 [vI p.at', vI p.cl, vI p.n, vI p.a.fst, vS p.a.snd])]) (cs := [_, ((0 : Int) ≤ i ∧ i < (↑cs.length : Int)), _, _]) [true, true, false] [3,7,8,9] ⟨hb1, by omega, hb2, hb3, trivial⟩ hsim fun E a w hsim => ?_
       rw [if_neg (by { clear hsim ih hr; (try dsimp only at *); generalize cs.getD i.toNat noCa = c at *; simp_all })]
       exact ih E a w hsim
     ·
      refine gh (OrcOK.none _) (k' := loopAt Tryd.f47 0) (s' := mk 0 28 [(3, .ref 0 0), (7, .d (.list 10 cs.length (caEl cs))), (8, vI n), (9, vI (IntKind.i64.wrap (i + 1)))] [(0, .obj 53 [vI p.at', vI p.cl, vI p.n, vI p.a.fst, vS p.a.snd])]) (cs := [_, ((0 : Int) ≤ i ∧ i < (↑cs.length : Int)), _]) [true, false] [3,7,8,9] ⟨hb1, by omega, hb2, trivial⟩ hsim fun E a w hsim => ?_
      rw [if_neg (by { clear hsim ih hr; (try dsimp only at *); generalize cs.getD i.toNat noCa = c at *; simp_all })]
      exact ih E a w hsim
    ·
     exact absurd (of_decide_eq_false hb1) (by omega)
theorem find_ok (cs : List Ca) (p : Pt) (hl : cs.length ≤ 1000000) : Eng.Spec Tryd.prog gz0 47 [.d (.list 10 cs.length (caEl cs)), .d (ptD p)] [] (.d (.raw (.int .i64 (fnd p cs 0)))) [] := by
  refine spec_fn Tryd.func47 rfl fun {w N E act} hsim => ?_
  refine gh (OrcOK.none _) (k' := loopAt Tryd.f47 0) (s' := mk 0 28 [(3, .ref 0 0), (7, .d (.list 10 cs.length (caEl cs))), (8, vI (↑cs.length : Int)), (9, vI 0)] [(0, .obj 53 [vI p.at', vI p.cl, vI p.n, vI p.a.fst, vS p.a.snd])]) (cs := []) [] [3,7,8,9] trivial hsim fun E a w hsim => ?_
  exact fi_go p cs hl cs.length (cs.length : Int) 0 rfl (by omega) (by omega) E a w hsim
abbrev GoTw (w0 : World) (N : Nat → Prop) (E0 : Env) (s : St) (r : Bool) : Prop := ∀ (E : Env) (a : Act) (w : World), Sim (cx Tryd.prog gz0 w0 N E0 []) E s a w → Goes Tryd.prog 46 (loopAt Tryd.f46 0) (RSpec (cx Tryd.prog gz0 w0 N E0 []) ⟨0, [.d (.raw (.bool r))], []⟩) a w
end Go.Prf
