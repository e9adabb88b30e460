/-
  Contracts of given functions, or plain laws that they need. No condition.
-/
import Derived.Test.YtbppcjkpkelbfaaDoorPrzG
namespace Go.Prf
open Go Go.Eng Go.Proofs Go.RowKit Go.Tab Go.Plc
set_option linter.unusedVariables false
set_option linter.unusedSimpArgs false
def badB (c b : Ca) : Bool := b.cl == c.cl && (decide (b.n ≥ c.n) || b.to == -1 || decide (b.to > c.fr))
def oneM (cs : List Ca) (k : Nat) : Bool := !badC (cs.getD k noCa) && !(cs.take k).any (badB (cs.getD k noCa))
def fnd (p : Pt) : List Ca → Int → Int
  | [], _ => -1
  | c :: r, i => if (c.cl == p.cl && c.n == p.n) = true then i else fnd p r (i + 1)
def sameP (p q : Pt) : Bool := q.cl == p.cl && q.n == p.n
def callF (cs : List Ca) (p : Pt) : Ca := cs.getD (fnd p cs 0).toNat noCa
def badT (cs : List Ca) (p : Pt) : Bool := decide (fnd p cs 0 < 0) || decide (p.at' < (callF cs p).fr) || ((callF cs p).to != -1 && decide (p.at' > (callF cs p).to))
def badM (ps : List Pt) (k : Nat) : Bool := decide ((ps.getD k noPt).at' < 0) || (decide (0 < k) && decide ((ps.getD (k - 1) noPt).at' > (ps.getD k noPt).at'))
def twoM (cs : List Ca) (ps : List Pt) (k : Nat) : Bool := !badM ps k && !badT cs (ps.getD k noPt) && !(ps.take k).any (sameP (ps.getD k noPt))
def there (ps : List Pt) (c : Ca) : Bool := c.to == -1 || ps.any fun p => p.cl == c.cl && p.n == c.n
def thereM (cs : List Ca) (ps : List Pt) (k : Nat) : Bool := there ps (cs.getD k noCa)
def firstB (f : Nat → Bool) : Nat → Nat → Int
  | 0, _ => -1
  | d + 1, i => if f i = true then firstB f d (i + 1) else i
def wrongR (cs : List Ca) (T : T4) (p : Pt) : Bool := !eqcs [.int .i64 (tellM T (callF cs p).o).1, .string (tellM T (callF cs p).o).2] [.int .i64 p.a.1, .string p.a.2] || ((callF cs p).to != -1 && !eqcs [.int .i64 (tellM T (callF cs p).o).1, .string (tellM T (callF cs p).o).2] [.int .i64 (callF cs p).a.1, .string (callF cs p).a.2])
def tdR (cs : List Ca) : T4 → List Pt → Int → Int
  | _, [], _ => -1
  | T, p :: r, i => if wrongR cs T p = true then i else tdR cs (nextT T (callF cs p).o) r (i + 1)
def refM (cs : List Ca) (ps : List Pt) : Int × Int × Int :=
  if 2000 < cs.length ∨ 2000 < ps.length then (0, 0, 2)
  else if 0 ≤ firstB (oneM cs) cs.length 0 then (1, firstB (oneM cs) cs.length 0, 0)
  else if 0 ≤ firstB (twoM cs ps) ps.length 0 then (2, firstB (twoM cs ps) ps.length 0, 0)
  else if 0 ≤ firstB (thereM cs ps) cs.length 0 then (3, firstB (thereM cs ps) cs.length 0, 0)
  else if 0 ≤ tdR cs T0 ps 0 then (4, tdR cs T0 ps 0, 0) else (0, 0, 0)
theorem getD_at {α : Type} (pre : List α) (x : α) (r : List α) (d : α) : (pre ++ x :: r).getD pre.length d = x := by simp [List.getD]
theorem take_at {α : Type} (pre r : List α) : (pre ++ r).take pre.length = pre := by simp
theorem badC_to {c : Ca} (h : badC c = false) : c.to ≠ -1 → c.fr ≤ c.to := by
  intro hne
  unfold badC at h
  simp only [Bool.or_eq_false_iff, Bool.and_eq_false_iff, decide_eq_false_iff_not] at h
  rcases h.1.2 with h | h
  · rw [bne_eq_false_iff_eq] at h; exact absurd h hne
  · omega
theorem badB_false {c b : Ca} (he : b.cl = c.cl) (h : badB c b = false) : b.n < c.n ∧ b.to ≠ -1 ∧ b.to ≤ c.fr := by
  unfold badB at h
  rw [he, beq_self_eq_true, Bool.true_and] at h
  simp only [Bool.or_eq_false_iff, decide_eq_false_iff_not, beq_eq_false_iff_ne] at h
  exact ⟨by omega, h.1.2, by omega⟩
theorem badB_true {c b : Ca} (he : b.cl = c.cl) (h1 : b.n < c.n) (h2 : b.to ≠ -1) (h3 : b.to ≤ c.fr) : badB c b = false := by
  unfold badB
  rw [decide_eq_false (by omega), decide_eq_false (by omega), beq_eq_false_iff_ne.2 h2, Bool.or_false, Bool.or_false, Bool.and_false]
theorem hasC_cons (b : Ca) (L : List Ca) (cl : Int) : hasC (b :: L) (.raw (.int .i64 cl)) = (cl == b.cl || hasC L (.raw (.int .i64 cl))) := rfl
theorem badL_any (c : Ca) : ∀ L : List Ca, (∀ b ∈ L, badC b = false) → L.Pairwise (fun b b' => badB b b' = false) → badL L c = L.any (badB c)
  | [], _, _ => rfl
  | b :: l, hg, hp => by
    obtain ⟨h1, h2⟩ := List.pairwise_cons.1 hp
    have ih := badL_any c l (fun x hx => hg x (List.mem_cons_of_mem _ hx)) h2
    rw [List.any_cons]
    by_cases he : c.cl = b.cl
    · have e1 : badL (b :: l) c = badB c b := by
        unfold badL badB
        rw [hasC_cons, getC_cons, if_pos he, he, beq_self_eq_true, Bool.true_or]
      rw [e1]
      cases hb : badB c b with
      | true => rfl
      | false =>
        rw [Bool.false_or]
        symm
        rw [List.any_eq_false]
        intro x hx hxb
        obtain ⟨b1, b2, b3⟩ := badB_false he.symm hb
        by_cases hxe : x.cl = c.cl
        · obtain ⟨x1, x2, x3⟩ := badB_false (hxe.trans he) (h1 x hx)
          have := badC_to (hg b List.mem_cons_self) b2
          rw [badB_true hxe (by omega) x2 (by omega)] at hxb
          exact absurd hxb (by decide)
        · unfold badB at hxb
          rw [beq_eq_false_iff_ne.2 hxe, Bool.false_and] at hxb
          cases hxb
    · have e0 : badB c b = false := by
        unfold badB
        rw [beq_eq_false_iff_ne.2 (fun e => he e.symm)]; rfl
      rw [e0, Bool.false_or, ← ih]
      unfold badL
      rw [hasC_cons, getC_cons, if_neg he, beq_eq_false_iff_ne.2 he, Bool.false_or]
theorem r1_eq : ∀ (cs' pre : List Ca), (∀ b ∈ pre, badC b = false) → pre.reverse.Pairwise (fun b b' => badB b b' = false) → firstB (oneM (pre ++ cs')) cs'.length pre.length = fmF pre.reverse cs' (pre.length : Int)
  | [], _, _, _ => rfl
  | c :: r, pre, hg, hp => by
    have ea := badL_any c pre.reverse (fun b hb => hg b (List.mem_reverse.1 hb)) hp
    rw [List.any_reverse] at ea
    have eo : oneM (pre ++ c :: r) pre.length = !(badC c || badL pre.reverse c) := by
      unfold oneM; rw [getD_at, take_at, ea, Bool.not_or]
    rw [List.length_cons, firstB, fmF, eo]
    cases hb : (badC c || badL pre.reverse c) with
    | true => rfl
    | false =>
      simp only [Bool.or_eq_false_iff] at hb
      have ih := r1_eq r (pre ++ [c]) (fun b hm => by
        rcases List.mem_append.1 hm with hm | hm
        · exact hg b hm
        · rw [List.mem_singleton.1 hm]; exact hb.1) (by
        rw [List.reverse_append]
        refine List.pairwise_cons.2 ⟨fun b hm => ?_, hp⟩
        have h2 := hb.2
        rw [ea, List.any_eq_false] at h2
        have := h2 b (List.mem_reverse.1 hm)
        simpa using this)
      rw [List.append_assoc, List.length_append, List.reverse_append] at ih
      exact ih
theorem rule1 (cs : List Ca) : firstB (oneM cs) cs.length 0 = fmF [] cs 0 := r1_eq cs [] (fun b h => by cases h) List.Pairwise.nil
theorem fnd_get (p : Pt) : ∀ (cs : List Ca) (i : Int), 0 ≤ i → (fnd p cs i = -1 ∧ ∀ c ∈ cs, ¬(c.cl = p.cl ∧ c.n = p.n)) ∨ ∃ (k : Nat) (c : Ca), fnd p cs i = i + k ∧ cs[k]? = some c ∧ c.cl = p.cl ∧ c.n = p.n
  | [], _, _ => .inl ⟨rfl, fun c h => by cases h⟩
  | c :: r, i, h0 => by
    rw [fnd]
    split
    · rename_i hb
      rw [Bool.and_eq_true] at hb
      exact .inr ⟨0, c, by omega, rfl, eq_of_beq hb.1, eq_of_beq hb.2⟩
    · rename_i hb
      rcases fnd_get p r (i + 1) (by omega) with ⟨h1, h2⟩ | ⟨k, d, e1, e2, e3⟩
      · refine .inl ⟨h1, fun d hd => ?_⟩
        rcases List.mem_cons.1 hd with rfl | hd
        · intro e; exact hb (by rw [e.1, e.2, beq_self_eq_true, beq_self_eq_true]; rfl)
        · exact h2 d hd
      · exact .inr ⟨k + 1, d, by rw [e1]; omega, e2, e3⟩
theorem fnd_bd (p : Pt) (cs : List Ca) : -1 ≤ fnd p cs 0 ∧ fnd p cs 0 < cs.length := by
  rcases fnd_get p cs 0 (by omega) with ⟨h1, -⟩ | ⟨k, c, e1, e2, -⟩
  · omega
  · obtain ⟨h, -⟩ := List.getElem?_eq_some_iff.1 e2
    omega
theorem fnd_none {p : Pt} {cs : List Ca} (h : hasN cs.reverse (nmD p.cl p.n) = false) : fnd p cs 0 = -1 := by
  rcases fnd_get p cs 0 (by omega) with ⟨h1, -⟩ | ⟨k, c, e1, e2, e3, e4⟩
  · exact h1
  · unfold hasN at h
    rw [List.any_eq_false] at h
    exact absurd (by rw [key_nm, e3, e4, beq_self_eq_true, beq_self_eq_true]; rfl) (h c (List.mem_reverse.2 (List.mem_of_getElem? e2)))
theorem fnd_some {p : Pt} {cs : List Ca} (hp : cs.Pairwise (fun a b => a.cl = b.cl → a.n < b.n)) (h : hasN cs.reverse (nmD p.cl p.n) = true) : 0 ≤ fnd p cs 0 ∧ callF cs p = getN cs.reverse (nmD p.cl p.n) := by
  obtain ⟨g1, g2, g3⟩ := getN_name h
  rcases fnd_get p cs 0 (by omega) with ⟨h1, h2⟩ | ⟨k, c, e1, e2, e3, e4⟩
  · exact absurd ⟨g2, g3⟩ (h2 _ (List.mem_reverse.1 g1))
  · refine ⟨by omega, ?_⟩
    have : callF cs p = c := by
      unfold callF
      rw [e1, show ((0 : Int) + k).toNat = k by omega, List.getD, e2]; rfl
    rw [this]
    exact uniq hp (List.mem_of_getElem? e2) (List.mem_reverse.1 g1) (e3.trans g2.symm) (e4.trans g3.symm)
theorem hasS_any (pre : List Pt) (p : Pt) : hasS pre.reverse (nmD p.cl p.n) = pre.any (sameP p) := by
  unfold hasS
  rw [List.any_reverse]
  congr 1
  funext q
  unfold sameP
  rw [key_nm, Bool.beq_comm, Bool.beq_comm (a := p.n)]
theorem two_eqR {cs : List Ca} (hp : cs.Pairwise (fun a b => a.cl = b.cl → a.n < b.n)) (pre r : List Pt) (p : Pt) (now : Int) (hn : now = match pre.getLast? with | none => 0 | some q => q.at') (h0 : 0 ≤ now) :
    twoM cs (pre ++ p :: r) pre.length = !ordB cs.reverse pre.reverse now p := by
  have em : badM (pre ++ p :: r) pre.length = decide (p.at' < now) := by
    unfold badM
    rw [getD_at]
    rcases List.eq_nil_or_concat pre with rfl | ⟨q, x, rfl⟩
    · rw [hn, show decide (0 < ([] : List Pt).length) = false from rfl, Bool.false_and, Bool.or_false]
      rfl
    · have hx : now = x.at' := by rw [hn]; simp
      rw [hx] at h0 ⊢
      have e : ((q.concat x) ++ p :: r).getD ((q.concat x).length - 1) noPt = x := by
        rw [List.concat_eq_append, List.append_assoc, List.length_append]; exact getD_at q x _ _
      rw [e]
      by_cases hlt : p.at' < x.at'
      · rw [decide_eq_true (show x.at' > p.at' from hlt), Bool.and_true, decide_eq_true (show 0 < (q.concat x).length by rw [List.length_concat]; omega), Bool.or_true]
      · rw [decide_eq_false (show ¬ x.at' > p.at' from hlt), Bool.and_false, decide_eq_false (by omega)]; rfl
  unfold twoM
  rw [em, getD_at, take_at]
  unfold ordB badT
  rw [hasS_any]
  cases hh : hasN cs.reverse (nmD p.cl p.n) with
  | false => rw [fnd_none hh]; simp
  | true =>
    obtain ⟨f1, f2⟩ := fnd_some hp hh
    rw [f2, decide_eq_false (by omega : ¬ fnd p cs 0 < 0)]
    generalize decide (p.at' < now) = b1
    generalize pre.any (sameP p) = b2
    generalize decide (p.at' < (getN cs.reverse (nmD p.cl p.n)).fr) = b3
    generalize ((getN cs.reverse (nmD p.cl p.n)).to != -1 && decide (p.at' > (getN cs.reverse (nmD p.cl p.n)).to)) = b4
    cases b1 <;> cases b2 <;> cases b3 <;> cases b4 <;> rfl
theorem r2_eq {cs : List Ca} (hp : cs.Pairwise (fun a b => a.cl = b.cl → a.n < b.n)) : ∀ (ps' pre : List Pt) (now : Int), (now = match pre.getLast? with | none => 0 | some q => q.at') → 0 ≤ now → firstB (twoM cs (pre ++ ps')) ps'.length pre.length = orF cs.reverse pre.reverse now ps' (pre.length : Int)
  | [], _, _, _, _ => rfl
  | p :: r, pre, now, hn, h0 => by
    rw [List.length_cons, firstB, orF, two_eqR hp pre r p now hn h0]
    cases hb : ordB cs.reverse pre.reverse now p with
    | true => rfl
    | false =>
      have hle : now ≤ p.at' := by
        unfold ordB at hb
        simp only [Bool.or_eq_false_iff, decide_eq_false_iff_not] at hb
        have := hb.1.1.1.1
        omega
      have ih := r2_eq hp r (pre ++ [p]) p.at' (by simp) (by omega)
      rw [List.append_assoc, List.length_append, List.reverse_append] at ih
      exact ih
theorem there_eq (ps : List Pt) (c : Ca) : there ps c = !(c.to != -1 && !hasS (ps.reverse ++ []) (nmD c.cl c.n)) := by
  unfold there hasS
  rw [List.append_nil, List.any_reverse, bne]
  have : (fun p : Pt => p.cl == c.cl && p.n == c.n) = fun p => keyEq (nmD c.cl c.n) (nmD p.cl p.n) := by
    funext p; rw [key_nm, Bool.beq_comm, Bool.beq_comm (a := p.n)]
  rw [this]
  cases (c.to == -1) <;> simp
theorem r3_eq (ps : List Pt) : ∀ (cs' pre : List Ca), firstB (thereM (pre ++ cs') ps) cs'.length pre.length = awF (ps.reverse ++ []) cs' (pre.length : Int)
  | [], _ => rfl
  | c :: r, pre => by
    rw [List.length_cons, firstB, awF]
    unfold thereM
    rw [getD_at, there_eq]
    cases hb : (c.to != -1 && !hasS (ps.reverse ++ []) (nmD c.cl c.n)) with
    | true => rfl
    | false =>
      have ih := r3_eq ps r (pre ++ [c])
      rw [List.append_assoc, List.length_append] at ih
      exact ih
theorem r4_eq (cs : List Ca) : ∀ (ps : List Pt), (∀ p ∈ ps, callF cs p = getN cs.reverse (nmD p.cl p.n)) → ∀ (T : T4) (i : Int), tdR cs T ps i = tdF cs.reverse T ps i
  | [], _, _, _ => rfl
  | p :: r, h, T, i => by
    rw [tdR, tdF, r4_eq cs r (fun q hq => h q (List.mem_cons_of_mem _ hq))]
    unfold wrongR wrongT
    rw [h p List.mem_cons_self]
theorem ref_eq (cs : List Ca) (ps : List Pt) : refM cs ps = checkP cs ps := by
  unfold refM checkP
  by_cases hl : 2000 < cs.length ∨ 2000 < ps.length
  · rw [if_pos hl, if_pos hl]
  rw [if_neg hl, if_neg hl, rule1]
  by_cases h1 : 0 ≤ fmF [] cs 0
  · rw [if_pos h1, if_pos h1]
  rw [if_neg h1, if_neg h1]
  have hpw := (fm_pw cs [] 0 (by omega) (fun b h => by cases h) (by omega)).2
  have e2 : firstB (twoM cs ps) ps.length 0 = orF cs.reverse [] 0 ps 0 := r2_eq hpw ps [] 0 rfl (by omega)
  have e3 : firstB (thereM cs ps) cs.length 0 = awF (ps.reverse ++ []) cs 0 := r3_eq ps cs []
  rw [e2, e3]
  by_cases h2 : 0 ≤ orF cs.reverse [] 0 ps 0
  · rw [if_pos h2, if_pos h2]
  rw [if_neg h2, if_neg h2]
  obtain ⟨o1, -⟩ := or_pw cs.reverse ps [] 0 0 (by omega) (by omega)
  rw [r4_eq cs ps (fun p hm => (fnd_some hpw (o1 p hm).2.1).2)]
end Go.Prf

namespace Go.Prf
open Go Go.Eng Go.Tab Go.Plc
set_option linter.unusedVariables false
def caC (c : Ca) : List AV := [.d (.raw (.int .i64 c.cl)), .d (.raw (.int .i64 c.n)), .d (.raw (.int .i64 c.o.1)), .d (.raw (.string c.o.2.1)), .d (.raw (.string c.o.2.2.1)), .d (.raw (.string c.o.2.2.2)), .d (.raw (.int .i64 c.fr)), .d (.raw (.int .i64 c.to)), .d (.raw (.int .i64 c.a.1)), .d (.raw (.string c.a.2))]
def ptC (p : Pt) : List AV := [.d (.raw (.int .i64 p.at')), .d (.raw (.int .i64 p.cl)), .d (.raw (.int .i64 p.n)), .d (.raw (.int .i64 p.a.1)), .d (.raw (.string p.a.2))]
def on1 (c : Ca) (cs : List Ca) (k j : Int) : St := mk 0 95 [(0, .d (.list 10 cs.length (caEl cs))), (1, .d (.raw (.int .i64 (k)))), (5, .ref 0 0), (6, .d (.raw (.int .i64 (j))))] [(0, .obj 45 (caC c))]
def fi1 (p : Pt) (cs : List Ca) (n i : Int) : St := mk 0 28 [(3, .ref 0 0), (7, .d (.list 10 cs.length (caEl cs))), (8, .d (.raw (.int .i64 (n)))), (9, .d (.raw (.int .i64 (i))))] [(0, .obj 53 (ptC p))]
def tw1 (p : Pt) (ps : List Pt) (k j : Int) : St := mk 0 88 [(1, .d (.list 5 ps.length (ptEl ps))), (2, .d (.raw (.int .i64 (k)))), (7, .ref 0 0), (9, .d (.raw (.int .i64 (j))))] [(0, .obj 53 (ptC p))]
def kc1 (cs : List Ca) (ps : List Pt) (n i : Int) : St := mk 0 127 [(0, .d (.list 10 cs.length (caEl cs))), (1, .d (.list 5 ps.length (ptEl ps))), (4, .ref 0 0), (27, .d (.list 10 cs.length (caEl cs))), (28, .d (.raw (.int .i64 (n)))), (29, .d (.raw (.int .i64 (i))))] [(0, .obj 60 [.d (.raw (.int .i64 0)), .d (.raw (.int .i64 0))])]
def kc2 (cs : List Ca) (ps : List Pt) (n i : Int) : St := mk 0 127 [(0, .d (.list 10 cs.length (caEl cs))), (1, .d (.list 5 ps.length (ptEl ps))), (4, .ref 0 0), (39, .d (.list 5 ps.length (ptEl ps))), (40, .d (.raw (.int .i64 (n)))), (41, .d (.raw (.int .i64 (i))))] [(0, .obj 60 [.d (.raw (.int .i64 0)), .d (.raw (.int .i64 0))])]
def kc3 (cs : List Ca) (ps : List Pt) (n i : Int) : St := mk 0 127 [(0, .d (.list 10 cs.length (caEl cs))), (1, .d (.list 5 ps.length (ptEl ps))), (4, .ref 0 0), (52, .d (.list 10 cs.length (caEl cs))), (53, .d (.raw (.int .i64 (n)))), (54, .d (.raw (.int .i64 (i))))] [(0, .obj 60 [.d (.raw (.int .i64 0)), .d (.raw (.int .i64 0))])]
def kc4 (c : Ca) (cs : List Ca) (ps : List Pt) (b : Bool) (n i m j : Int) : St := mk 0 127 [(0, .d (.list 10 cs.length (caEl cs))), (1, .d (.list 5 ps.length (ptEl ps))), (4, .ref 0 0), (8, .d (.raw (.int .i64 (i)))), (9, .ref 1 0), (10, .d (.raw (.bool b))), (52, .d (.list 10 cs.length (caEl cs))), (53, .d (.raw (.int .i64 (n)))), (54, .d (.raw (.int .i64 (i)))), (62, .d (.list 5 ps.length (ptEl ps))), (63, .d (.raw (.int .i64 (m)))), (64, .d (.raw (.int .i64 (j))))] [(0, .obj 60 [.d (.raw (.int .i64 0)), .d (.raw (.int .i64 0))]), (1, .obj 45 (caC c))]
def kc5 (cs : List Ca) (ps : List Pt) (Q : T4) (n i : Int) : St := mk 0 127 [(0, .d (.list 10 cs.length (caEl cs))), (4, .ref 0 0), (13, .ref 1 0), (91, .d (.list 5 ps.length (ptEl ps))), (92, .d (.raw (.int .i64 (n)))), (93, .d (.raw (.int .i64 (i))))] [(0, .obj 60 [.d (.raw (.int .i64 0)), .d (.raw (.int .i64 0))]), (1, .obj 107 [.own 2, .own 3, .own 4, .own 5]), (2, rrow Q.a), (3, rrow Q.b), (4, rrow Q.c), (5, rrow Q.d)]
def rf1 (cs acc : List Ca) (n i : Int) : St := mk 0 42 [(3, .own 0), (6, .d (.list 10 cs.length (caEl cs))), (7, .d (.raw (.int .i64 (n)))), (8, .d (.raw (.int .i64 (i))))] [(0, .row 45 10 acc.length (caEl acc))]
def pf1 (ps acc : List Pt) (n i : Int) : St := mk 0 27 [(3, .own 0), (6, .d (.list 5 ps.length (ptEl ps))), (7, .d (.raw (.int .i64 (n)))), (8, .d (.raw (.int .i64 (i))))] [(0, .row 53 5 acc.length (ptEl acc))]
def mFind (cs : List Ca) (f : Int) : Mo
  | [.d (.list s k el), .d (.agg [.raw (.int .i64 m), .raw (.int .i64 c), .raw (.int .i64 n), .raw (.int .i64 er), .raw (.string v)])], [] => some (.d (.raw (.int .i64 f)), [], [s = 10, k = cs.length, el = caEl cs, cs.length ≤ 1000000 ∧ f = fnd ⟨m, c, n, (er, v)⟩ cs 0])
  | _, _ => none
def mOne (cs : List Ca) (r : Bool) : Mo
  | [.d (.list s k el), .d (.raw (.int .i64 i))], [] => some (.d (.raw (.bool r)), [], [s = 10, k = cs.length, el = caEl cs, cs.length ≤ 1000000 ∧ 0 ≤ i ∧ i < cs.length ∧ r = oneM cs i.toNat])
  | _, _ => none
def mTwo (cs : List Ca) (ps : List Pt) (r : Bool) : Mo
  | [.d (.list s k el), .d (.list s2 k2 el2), .d (.raw (.int .i64 i))], [] => some (.d (.raw (.bool r)), [], [s = 10, k = cs.length, el = caEl cs, s2 = 5, k2 = ps.length, el2 = ptEl ps, cs.length ≤ 1000000 ∧ ps.length ≤ 1000000 ∧ 0 ≤ i ∧ i < ps.length ∧ r = twoM cs ps i.toNat])
  | _, _ => none
def J1 (cs : List Ca) (f : Int) : Orc := (Orc.none gz0).add 47 false (mFind cs f)
def J2 (cs : List Ca) (ps : List Pt) (Q Q' : T4) (r1 r2 : Bool) (f e : Int) (v : ByteArray) : Orc := ((((Orc.none gB).add 47 false (mFind cs f)).add 45 false (mOne cs r1)).add 46 false (mTwo cs ps r2)).add 48 false (mTellR Q Q' e v)
def J3 : Orc := (Orc.none gz0).add 27 false mAns
def mIdC (cs : List Ca) : Mo
  | [.d (.list s k el)], [] => some (.d (.list 10 cs.length (caEl cs)), [], [s = 10, k = cs.length, el = caEl cs, cs.length ≤ 1000000])
  | _, _ => none
def mIdP (ps : List Pt) : Mo
  | [.d (.list s k el)], [] => some (.d (.list 5 ps.length (ptEl ps)), [], [s = 5, k = ps.length, el = ptEl ps, ps.length ≤ 1000000])
  | _, _ => none
def mRefC (cs : List Ca) (ps : List Pt) (r : Int × Int × Int) : Mo
  | [.d (.list s k el), .d (.list s2 k2 el2)], [] => some (.tup [.d (.agg [.raw (.int .i64 r.1), .raw (.int .i64 r.2.1)]), .d (.raw (.int .i64 r.2.2))], [], [s = 10, k = cs.length, el = caEl cs, s2 = 5, k2 = ps.length, el2 = ptEl ps, cs.length ≤ 1000000 ∧ ps.length ≤ 1000000 ∧ r = checkP cs ps])
  | _, _ => none
def J4 (cs : List Ca) (ps : List Pt) (r : Int × Int × Int) : Orc := (((((Orc.none gB).add 19 false (mChkP cs ps r)).add 20 false (mRefC cs ps r)).add 21 false (mIdC cs)).add 22 false (mIdP ps)).add 18 false mReads
end Go.Prf
