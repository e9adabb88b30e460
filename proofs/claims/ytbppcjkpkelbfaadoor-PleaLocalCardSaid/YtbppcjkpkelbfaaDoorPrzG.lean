/-
  Contracts of given functions, plain laws. No condition.
-/
import Derived.Test.YtbppcjkpkelbfaaDoorPrfE
namespace Go.Prf
open Go Go.Eng Go.Tab Go.Plc
def mChkP (cs : List Ca) (ps : List Pt) (r : Int × Int × Int) : Mo
 | [.d (.list s k el), .d (.list s2 k2 el2)], [] => some (.tup [.d (.raw (.int .i64 r.1)), .d (.raw (.int .i64 r.2.1)), .d (.raw (.int .i64 r.2.2))], [], [s = 10, k = cs.length, el = caEl cs, s2 = 5, k2 = ps.length, el2 = ptEl ps, cs.length ≤ 1099511627776 ∧ r = checkP cs ps])
 | _, _ => none
def atF (cl n : Int) : List Pt → Int → Int
 | [], _ => -1
 | p :: r, i => if (p.cl == cl && p.n == n) = true then i else atF cl n r (i + 1)
end Go.Prf

namespace Go.Prf
open Go Go.Eng Go.Tab Go.Plc
end Go.Prf

namespace Go.Prf
open Go Go.Eng Go.Proofs Go.RowKit Go.Tab Go.Plc
set_option maxRecDepth 100000
set_option maxHeartbeats 4000000
end Go.Prf

namespace Go.Prf
open Go Go.Eng Go.Proofs Go.RowKit Go.Tab Go.Plc
set_option maxRecDepth 100000
set_option maxHeartbeats 4000000
end Go.Prf

namespace Go.Prf
open Go Go.Eng Go.Proofs Go.RowKit Go.Tab Go.Plc
set_option maxRecDepth 100000
set_option maxHeartbeats 4000000
def opsF (p : Pt) : List Ca → List OpT
 | [] => []
 | c :: r => if (c.cl == p.cl && c.n == p.n) = true then c.o :: opsF p r else opsF p r
def allF (cs : List Ca) : List Pt → List OpT
 | [] => []
 | p :: r => opsF p cs ++ allF cs r
structure OrdOK (cs : List Ca) (ps : List Pt) : Prop where
 some : ∀ a ∈ cs, a.to ≠ -1 → 0 ≤ atF a.cl a.n ps 0
 ahead : ∀ a ∈ cs, ∀ b ∈ cs, a.to ≠ -1 → a.to < b.fr → 0 ≤ atF b.cl b.n ps 0 → atF b.cl b.n ps 0 ≤ atF a.cl a.n ps 0 → False
 small : Small (allF cs ps)
 told : repF T0 (allF cs ps) = ps.map Pt.a
variable {w0 : World} {N : Nat → Prop} {E0 : Env}
end Go.Prf

namespace Go.Prf
open Go Go.Eng Go.Proofs Go.RowKit Go.Tab Go.Plc
theorem key_int (a b : Int) : keyEq (.raw (.int .i64 a)) (.raw (.int .i64 b)) = (a == b) := rfl
theorem key_nm (a b c d : Int) : keyEq (nmD a b) (nmD c d) = (a == c && b == d) := rfl
def InvL (L : List Ca) : Prop := ∀ b ∈ L, b.n ≤ (getC L (.raw (.int .i64 b.cl))).n
theorem hasC_of {L : List Ca} {b : Ca} (hb : b ∈ L) {cl : Int} (h : b.cl = cl) : hasC L (.raw (.int .i64 cl)) = true := by
 unfold hasC
 rw [List.any_eq_true]
 exact ⟨b, hb, by rw [key_int, h]; exact beq_self_eq_true _⟩
theorem getC_cons (c : Ca) (L : List Ca) (cl : Int) : getC (c :: L) (.raw (.int .i64 cl)) = if cl = c.cl then c else getC L (.raw (.int .i64 cl)) := by
 unfold getC
 rw [List.find?_cons, key_int]
 by_cases h : cl = c.cl
 · rw [if_pos h, h, beq_self_eq_true]; rfl
 · rw [if_neg h, beq_eq_false_iff_ne.2 h]
theorem badL_lt {L : List Ca} {c : Ca} (hI : InvL L) (h : badL L c = false) {b : Ca} (hb : b ∈ L) (he : b.cl = c.cl) : b.n < c.n := by
 unfold badL at h
 rw [hasC_of hb he, Bool.true_and] at h
 simp only [Bool.or_eq_false_iff, decide_eq_false_iff_not] at h
 have h1 := hI b hb
 rw [he] at h1
 omega
theorem fm_pw : ∀ (cs L : List Ca) (i : Int), 0 ≤ i → InvL L → fmF L cs i < 0 → (∀ c ∈ cs, ∀ b ∈ L, b.cl = c.cl → b.n < c.n) ∧ cs.Pairwise (fun a b => a.cl = b.cl → a.n < b.n)
 | [], _, _, _, _, _ => ⟨fun c h => (by cases h), List.Pairwise.nil⟩
 | c :: r, L, i, h0, hI, h => by
  rw [fmF] at h
  split at h
  · omega
  ·
   rename_i hb
   have hb2 : badL L c = false := by
    cases hc : badL L c with
    | false => rfl
    | true => rw [hc, Bool.or_true] at hb; exact absurd rfl hb
   have hlt := fun b hb e => badL_lt hI hb2 (b := b) hb e
   have hI2 : InvL (c :: L) := by
    intro b hm
    rw [getC_cons]
    split
    ·
     rename_i e
     rcases List.mem_cons.1 hm with rfl | hm
     · exact Int.le_refl _
     · have := hlt b hm e; omega
    ·
     rename_i e
     rcases List.mem_cons.1 hm with rfl | hm
     · exact absurd rfl e
     · exact hI b hm
   obtain ⟨h1, h2⟩ := fm_pw r (c :: L) (i + 1) (by omega) hI2 h
   refine ⟨fun c' hm b hbm e => ?_, List.Pairwise.cons (fun c' hm e => h1 c' hm c (List.mem_cons_self) e) h2⟩
   rcases List.mem_cons.1 hm with rfl | hm
   · exact hlt b hbm e
   · exact h1 c' hm b (List.mem_cons_of_mem _ hbm) e
theorem uniq : ∀ {cs : List Ca}, cs.Pairwise (fun a b => a.cl = b.cl → a.n < b.n) → ∀ {a b : Ca}, a ∈ cs → b ∈ cs → a.cl = b.cl → a.n = b.n → a = b
 | [], _, a, b, ha, _, _, _ => by cases ha
 | c :: r, h, a, b, ha, hb, e1, e2 => by
  obtain ⟨h1, h2⟩ := List.pairwise_cons.1 h
  rcases List.mem_cons.1 ha with ea | ha2 <;> rcases List.mem_cons.1 hb with eb | hb2
  · rw [ea, eb]
  · subst ea; have := h1 b hb2 e1; omega
  · subst eb; have := h1 a ha2 e1.symm; omega
  · exact uniq h2 ha2 hb2 e1 e2
theorem getN_has {L : List Ca} {d : D} (h : hasN L d = true) : getN L d ∈ L ∧ keyEq d (nmD (getN L d).cl (getN L d).n) = true := by
 unfold getN
 cases hf : L.find? (fun c => keyEq d (nmD c.cl c.n)) with
 | none =>
  unfold hasN at h
  rw [List.any_eq_true] at h
  obtain ⟨c, hc, hk⟩ := h
  exact absurd hk (List.find?_eq_none.1 hf c hc)
 | some c => exact ⟨List.mem_of_find?_eq_some hf, List.find?_some (p := fun (c : Ca) => keyEq d (nmD c.cl c.n)) hf⟩
theorem getN_name {L : List Ca} {cl n : Int} (h : hasN L (nmD cl n) = true) : getN L (nmD cl n) ∈ L ∧ (getN L (nmD cl n)).cl = cl ∧ (getN L (nmD cl n)).n = n := by
 obtain ⟨h1, h2⟩ := getN_has h
 rw [key_nm, Bool.and_eq_true] at h2
 exact ⟨h1, (eq_of_beq h2.1).symm, (eq_of_beq h2.2).symm⟩
theorem or_pw (L : List Ca) : ∀ (ps S : List Pt) (now i : Int), 0 ≤ i → orF L S now ps i < 0 →
  (∀ p ∈ ps, now ≤ p.at' ∧ hasN L (nmD p.cl p.n) = true ∧ (getN L (nmD p.cl p.n)).fr ≤ p.at' ∧ ((getN L (nmD p.cl p.n)).to ≠ -1 → p.at' ≤ (getN L (nmD p.cl p.n)).to)) ∧ ps.Pairwise (fun p q => p.at' ≤ q.at')
 | [], _, _, _, _, _ => ⟨fun p h => (by cases h), List.Pairwise.nil⟩
 | p :: r, S, now, i, h0, h => by
  rw [orF] at h
  split at h
  · omega
  ·
   rename_i hb
   have hb : ordB L S now p = false := by
    cases hc : ordB L S now p with
    | false => rfl
    | true => exact absurd hc hb
   unfold ordB at hb
   simp only [Bool.or_eq_false_iff, decide_eq_false_iff_not, Bool.not_eq_false', Bool.and_eq_false_iff] at hb
   obtain ⟨⟨⟨⟨b1, b2⟩, b3⟩, b4⟩, b5⟩ := hb
   obtain ⟨h1, h2⟩ := or_pw L r (p :: S) p.at' (i + 1) (by omega) h
   refine ⟨fun q hm => ?_, List.Pairwise.cons (fun q hm => (h1 q hm).1) h2⟩
   rcases List.mem_cons.1 hm with rfl | hm
   ·
    refine ⟨by omega, b2, by omega, fun hne => ?_⟩
    rcases b5 with b5 | b5
    · rw [bne_eq_false_iff_eq] at b5; exact absurd b5 hne
    · omega
   ·
    obtain ⟨g1, g2⟩ := h1 q hm
    exact ⟨by omega, g2⟩
end Go.Prf

namespace Go.Prf
open Go Go.Eng Go.Proofs Go.RowKit Go.Tab Go.Plc
def badB (c b : Ca) : Bool := b.cl == c.cl && (decide (b.n ≥ c.n) || b.to == -1 || decide (b.to > c.fr))
def oneM (cs : List Ca) (k : Nat) : Bool := !badC (cs.getD k noCa) && !(cs.take k).any (badB (cs.getD k noCa))
def fnd (p : Pt) : List Ca → Int → Int
 | [], _ => -1
 | c :: r, i => if (c.cl == p.cl && c.n == p.n) = true then i else fnd p r (i + 1)
def sameP (p q : Pt) : Bool := q.cl == p.cl && q.n == p.n
def callF (cs : List Ca) (p : Pt) : Ca := cs.getD (fnd p cs 0).toNat noCa
def badT (cs : List Ca) (p : Pt) : Bool := decide (fnd p cs 0 < 0) || decide (p.at' < (callF cs p).fr) || ((callF cs p).to != -1 && decide (p.at' > (callF cs p).to))
def badM (ps : List Pt) (k : Nat) : Bool := decide ((ps.getD k noPt).at' < 0) || (decide (0 < k) && decide ((ps.getD (k - 1) noPt).at' > (ps.getD k noPt).at'))
def twoM (cs : List Ca) (ps : List Pt) (k : Nat) : Bool := !badM ps k && !badT cs (ps.getD k noPt) && !(ps.take k).any (sameP (ps.getD k noPt))
def there (ps : List Pt) (c : Ca) : Bool := c.to == -1 || ps.any fun p => p.cl == c.cl && p.n == c.n
def thereM (cs : List Ca) (ps : List Pt) (k : Nat) : Bool := there ps (cs.getD k noCa)
def firstB (f : Nat → Bool) : Nat → Nat → Int
 | 0, _ => -1
 | d + 1, i => if f i = true then firstB f d (i + 1) else i
def wrongR (cs : List Ca) (T : T4) (p : Pt) : Bool := !eqcs [.int .i64 (tellM T (callF cs p).o).1, .string (tellM T (callF cs p).o).2] [.int .i64 p.a.1, .string p.a.2] || ((callF cs p).to != -1 && !eqcs [.int .i64 (tellM T (callF cs p).o).1, .string (tellM T (callF cs p).o).2] [.int .i64 (callF cs p).a.1, .string (callF cs p).a.2])
def tdR (cs : List Ca) : T4 → List Pt → Int → Int
 | _, [], _ => -1
 | T, p :: r, i => if wrongR cs T p = true then i else tdR cs (nextT T (callF cs p).o) r (i + 1)
def refM (cs : List Ca) (ps : List Pt) : Int × Int × Int :=
 if 2000 < cs.length ∨ 2000 < ps.length then (0, 0, 2)
 else if 0 ≤ firstB (oneM cs) cs.length 0 then (1, firstB (oneM cs) cs.length 0, 0)
 else if 0 ≤ firstB (twoM cs ps) ps.length 0 then (2, firstB (twoM cs ps) ps.length 0, 0)
 else if 0 ≤ firstB (thereM cs ps) cs.length 0 then (3, firstB (thereM cs ps) cs.length 0, 0)
 else if 0 ≤ tdR cs T0 ps 0 then (4, tdR cs T0 ps 0, 0) else (0, 0, 0)
theorem getD_at {α : Type} (pre : List α) (x : α) (r : List α) (d : α) : (pre ++ x :: r).getD pre.length d = x := by simp [List.getD]
theorem take_at {α : Type} (pre r : List α) : (pre ++ r).take pre.length = pre := by simp
theorem badC_to {c : Ca} (h : badC c = false) : c.to ≠ -1 → c.fr ≤ c.to := by
 intro hne
 unfold badC at h
 simp only [Bool.or_eq_false_iff, Bool.and_eq_false_iff, decide_eq_false_iff_not] at h
 rcases h.1.2 with h | h
 · rw [bne_eq_false_iff_eq] at h; exact absurd h hne
 · omega
theorem badB_false {c b : Ca} (he : b.cl = c.cl) (h : badB c b = false) : b.n < c.n ∧ b.to ≠ -1 ∧ b.to ≤ c.fr := by
 unfold badB at h
 rw [he, beq_self_eq_true, Bool.true_and] at h
 simp only [Bool.or_eq_false_iff, decide_eq_false_iff_not, beq_eq_false_iff_ne] at h
 exact ⟨by omega, h.1.2, by omega⟩
theorem badB_true {c b : Ca} (he : b.cl = c.cl) (h1 : b.n < c.n) (h2 : b.to ≠ -1) (h3 : b.to ≤ c.fr) : badB c b = false := by
 unfold badB
 rw [decide_eq_false (by omega), decide_eq_false (by omega), beq_eq_false_iff_ne.2 h2, Bool.or_false, Bool.or_false, Bool.and_false]
theorem hasC_cons (b : Ca) (L : List Ca) (cl : Int) : hasC (b :: L) (.raw (.int .i64 cl)) = (cl == b.cl || hasC L (.raw (.int .i64 cl))) := rfl
theorem badL_any (c : Ca) : ∀ L : List Ca, (∀ b ∈ L, badC b = false) → L.Pairwise (fun b b' => badB b b' = false) → badL L c = L.any (badB c)
 | [], _, _ => rfl
 | b :: l, hg, hp => by
  obtain ⟨h1, h2⟩ := List.pairwise_cons.1 hp
  have ih := badL_any c l (fun x hx => hg x (List.mem_cons_of_mem _ hx)) h2
  rw [List.any_cons]
  by_cases he : c.cl = b.cl
  ·
   have e1 : badL (b :: l) c = badB c b := by
    unfold badL badB
    rw [hasC_cons, getC_cons, if_pos he, he, beq_self_eq_true, Bool.true_or]
   rw [e1]
   cases hb : badB c b with
   | true => rfl
   | false =>
    rw [Bool.false_or]
    symm
    rw [List.any_eq_false]
    intro x hx hxb
    obtain ⟨b1, b2, b3⟩ := badB_false he.symm hb
    by_cases hxe : x.cl = c.cl
    ·
     obtain ⟨x1, x2, x3⟩ := badB_false (hxe.trans he) (h1 x hx)
     have := badC_to (hg b List.mem_cons_self) b2
     rw [badB_true hxe (by omega) x2 (by omega)] at hxb
     exact absurd hxb (by decide)
    ·
     unfold badB at hxb
     rw [beq_eq_false_iff_ne.2 hxe, Bool.false_and] at hxb
     cases hxb
  ·
   have e0 : badB c b = false := by
    unfold badB
    rw [beq_eq_false_iff_ne.2 (fun e => he e.symm)]; rfl
   rw [e0, Bool.false_or, ← ih]
   unfold badL
   rw [hasC_cons, getC_cons, if_neg he, beq_eq_false_iff_ne.2 he, Bool.false_or]
theorem r1_eq : ∀ (cs' pre : List Ca), (∀ b ∈ pre, badC b = false) → pre.reverse.Pairwise (fun b b' => badB b b' = false) → firstB (oneM (pre ++ cs')) cs'.length pre.length = fmF pre.reverse cs' (pre.length : Int)
 | [], _, _, _ => rfl
 | c :: r, pre, hg, hp => by
  have ea := badL_any c pre.reverse (fun b hb => hg b (List.mem_reverse.1 hb)) hp
  rw [List.any_reverse] at ea
  have eo : oneM (pre ++ c :: r) pre.length = !(badC c || badL pre.reverse c) := by
   unfold oneM; rw [getD_at, take_at, ea, Bool.not_or]
  rw [List.length_cons, firstB, fmF, eo]
  cases hb : (badC c || badL pre.reverse c) with
  | true => rfl
  | false =>
   simp only [Bool.or_eq_false_iff] at hb
   have ih := r1_eq r (pre ++ [c]) (fun b hm => by
    rcases List.mem_append.1 hm with hm | hm
    · exact hg b hm
    · rw [List.mem_singleton.1 hm]; exact hb.1) (by
    rw [List.reverse_append]
    refine List.pairwise_cons.2 ⟨fun b hm => ?_, hp⟩
    have h2 := hb.2
    rw [ea, List.any_eq_false] at h2
    have := h2 b (List.mem_reverse.1 hm)
    simpa using this)
   rw [List.append_assoc, List.length_append, List.reverse_append] at ih
   exact ih
theorem rule1 (cs : List Ca) : firstB (oneM cs) cs.length 0 = fmF [] cs 0 := r1_eq cs [] (fun b h => by cases h) List.Pairwise.nil
theorem fnd_get (p : Pt) : ∀ (cs : List Ca) (i : Int), 0 ≤ i → (fnd p cs i = -1 ∧ ∀ c ∈ cs, ¬(c.cl = p.cl ∧ c.n = p.n)) ∨ ∃ (k : Nat) (c : Ca), fnd p cs i = i + k ∧ cs[k]? = some c ∧ c.cl = p.cl ∧ c.n = p.n
 | [], _, _ => .inl ⟨rfl, fun c h => by cases h⟩
 | c :: r, i, h0 => by
  rw [fnd]
  split
  ·
   rename_i hb
   rw [Bool.and_eq_true] at hb
   exact .inr ⟨0, c, by omega, rfl, eq_of_beq hb.1, eq_of_beq hb.2⟩
  ·
   rename_i hb
   rcases fnd_get p r (i + 1) (by omega) with ⟨h1, h2⟩ | ⟨k, d, e1, e2, e3⟩
   ·
    refine .inl ⟨h1, fun d hd => ?_⟩
    rcases List.mem_cons.1 hd with rfl | hd
    · intro e; exact hb (by rw [e.1, e.2, beq_self_eq_true, beq_self_eq_true]; rfl)
    · exact h2 d hd
   · exact .inr ⟨k + 1, d, by rw [e1]; omega, e2, e3⟩
theorem fnd_bd (p : Pt) (cs : List Ca) : -1 ≤ fnd p cs 0 ∧ fnd p cs 0 < cs.length := by
 rcases fnd_get p cs 0 (by omega) with ⟨h1, -⟩ | ⟨k, c, e1, e2, -⟩
 · omega
 ·
  obtain ⟨h, -⟩ := List.getElem?_eq_some_iff.1 e2
  omega
theorem fnd_none {p : Pt} {cs : List Ca} (h : hasN cs.reverse (nmD p.cl p.n) = false) : fnd p cs 0 = -1 := by
 rcases fnd_get p cs 0 (by omega) with ⟨h1, -⟩ | ⟨k, c, e1, e2, e3, e4⟩
 · exact h1
 ·
  unfold hasN at h
  rw [List.any_eq_false] at h
  exact absurd (by rw [key_nm, e3, e4, beq_self_eq_true, beq_self_eq_true]; rfl) (h c (List.mem_reverse.2 (List.mem_of_getElem? e2)))
theorem fnd_some {p : Pt} {cs : List Ca} (hp : cs.Pairwise (fun a b => a.cl = b.cl → a.n < b.n)) (h : hasN cs.reverse (nmD p.cl p.n) = true) : 0 ≤ fnd p cs 0 ∧ callF cs p = getN cs.reverse (nmD p.cl p.n) := by
 obtain ⟨g1, g2, g3⟩ := getN_name h
 rcases fnd_get p cs 0 (by omega) with ⟨h1, h2⟩ | ⟨k, c, e1, e2, e3, e4⟩
 · exact absurd ⟨g2, g3⟩ (h2 _ (List.mem_reverse.1 g1))
 ·
  refine ⟨by omega, ?_⟩
  have : callF cs p = c := by
   unfold callF
   rw [e1, show ((0 : Int) + k).toNat = k by omega, List.getD, e2]; rfl
  rw [this]
  exact uniq hp (List.mem_of_getElem? e2) (List.mem_reverse.1 g1) (e3.trans g2.symm) (e4.trans g3.symm)
theorem hasS_any (pre : List Pt) (p : Pt) : hasS pre.reverse (nmD p.cl p.n) = pre.any (sameP p) := by
 unfold hasS
 rw [List.any_reverse]
 congr 1
 funext q
 unfold sameP
 rw [key_nm, Bool.beq_comm, Bool.beq_comm (a := p.n)]
theorem two_eqR {cs : List Ca} (hp : cs.Pairwise (fun a b => a.cl = b.cl → a.n < b.n)) (pre r : List Pt) (p : Pt) (now : Int) (hn : now = match pre.getLast? with | none => 0 | some q => q.at') (h0 : 0 ≤ now) :
  twoM cs (pre ++ p :: r) pre.length = !ordB cs.reverse pre.reverse now p := by
 have em : badM (pre ++ p :: r) pre.length = decide (p.at' < now) := by
  unfold badM
  rw [getD_at]
  rcases List.eq_nil_or_concat pre with rfl | ⟨q, x, rfl⟩
  ·
   rw [hn, show decide (0 < ([] : List Pt).length) = false from rfl, Bool.false_and, Bool.or_false]
   rfl
  ·
   have hx : now = x.at' := by rw [hn]; simp
   rw [hx] at h0 ⊢
   have e : ((q.concat x) ++ p :: r).getD ((q.concat x).length - 1) noPt = x := by
    rw [List.concat_eq_append, List.append_assoc, List.length_append]; exact getD_at q x _ _
   rw [e]
   by_cases hlt : p.at' < x.at'
   · rw [decide_eq_true (show x.at' > p.at' from hlt), Bool.and_true, decide_eq_true (show 0 < (q.concat x).length by rw [List.length_concat]; omega), Bool.or_true]
   · rw [decide_eq_false (show ¬ x.at' > p.at' from hlt), Bool.and_false, decide_eq_false (by omega)]; rfl
 unfold twoM
 rw [em, getD_at, take_at]
 unfold ordB badT
 rw [hasS_any]
 cases hh : hasN cs.reverse (nmD p.cl p.n) with
 | false => rw [fnd_none hh]; simp
 | true =>
  obtain ⟨f1, f2⟩ := fnd_some hp hh
  rw [f2, decide_eq_false (by omega : ¬ fnd p cs 0 < 0)]
  generalize decide (p.at' < now) = b1
  generalize pre.any (sameP p) = b2
  generalize decide (p.at' < (getN cs.reverse (nmD p.cl p.n)).fr) = b3
  generalize ((getN cs.reverse (nmD p.cl p.n)).to != -1 && decide (p.at' > (getN cs.reverse (nmD p.cl p.n)).to)) = b4
  cases b1 <;> cases b2 <;> cases b3 <;> cases b4 <;> rfl
theorem r2_eq {cs : List Ca} (hp : cs.Pairwise (fun a b => a.cl = b.cl → a.n < b.n)) : ∀ (ps' pre : List Pt) (now : Int), (now = match pre.getLast? with | none => 0 | some q => q.at') → 0 ≤ now → firstB (twoM cs (pre ++ ps')) ps'.length pre.length = orF cs.reverse pre.reverse now ps' (pre.length : Int)
 | [], _, _, _, _ => rfl
 | p :: r, pre, now, hn, h0 => by
  rw [List.length_cons, firstB, orF, two_eqR hp pre r p now hn h0]
  cases hb : ordB cs.reverse pre.reverse now p with
  | true => rfl
  | false =>
   have hle : now ≤ p.at' := by
    unfold ordB at hb
    simp only [Bool.or_eq_false_iff, decide_eq_false_iff_not] at hb
    have := hb.1.1.1.1
    omega
   have ih := r2_eq hp r (pre ++ [p]) p.at' (by simp) (by omega)
   rw [List.append_assoc, List.length_append, List.reverse_append] at ih
   exact ih
theorem there_eq (ps : List Pt) (c : Ca) : there ps c = !(c.to != -1 && !hasS (ps.reverse ++ []) (nmD c.cl c.n)) := by
 unfold there hasS
 rw [List.append_nil, List.any_reverse, bne]
 have : (fun p : Pt => p.cl == c.cl && p.n == c.n) = fun p => keyEq (nmD c.cl c.n) (nmD p.cl p.n) := by
  funext p; rw [key_nm, Bool.beq_comm, Bool.beq_comm (a := p.n)]
 rw [this]
 cases (c.to == -1) <;> simp
theorem r3_eq (ps : List Pt) : ∀ (cs' pre : List Ca), firstB (thereM (pre ++ cs') ps) cs'.length pre.length = awF (ps.reverse ++ []) cs' (pre.length : Int)
 | [], _ => rfl
 | c :: r, pre => by
  rw [List.length_cons, firstB, awF]
  unfold thereM
  rw [getD_at, there_eq]
  cases hb : (c.to != -1 && !hasS (ps.reverse ++ []) (nmD c.cl c.n)) with
  | true => rfl
  | false =>
   have ih := r3_eq ps r (pre ++ [c])
   rw [List.append_assoc, List.length_append] at ih
   exact ih
theorem r4_eq (cs : List Ca) : ∀ (ps : List Pt), (∀ p ∈ ps, callF cs p = getN cs.reverse (nmD p.cl p.n)) → ∀ (T : T4) (i : Int), tdR cs T ps i = tdF cs.reverse T ps i
 | [], _, _, _ => rfl
 | p :: r, h, T, i => by
  rw [tdR, tdF, r4_eq cs r (fun q hq => h q (List.mem_cons_of_mem _ hq))]
  unfold wrongR wrongT
  rw [h p List.mem_cons_self]
theorem ref_eq (cs : List Ca) (ps : List Pt) : refM cs ps = checkP cs ps := by
 unfold refM checkP
 by_cases hl : 2000 < cs.length ∨ 2000 < ps.length
 · rw [if_pos hl, if_pos hl]
 rw [if_neg hl, if_neg hl, rule1]
 by_cases h1 : 0 ≤ fmF [] cs 0
 · rw [if_pos h1, if_pos h1]
 rw [if_neg h1, if_neg h1]
 have hpw := (fm_pw cs [] 0 (by omega) (fun b h => by cases h) (by omega)).2
 have e2 : firstB (twoM cs ps) ps.length 0 = orF cs.reverse [] 0 ps 0 := r2_eq hpw ps [] 0 rfl (by omega)
 have e3 : firstB (thereM cs ps) cs.length 0 = awF (ps.reverse ++ []) cs 0 := r3_eq ps cs []
 rw [e2, e3]
 by_cases h2 : 0 ≤ orF cs.reverse [] 0 ps 0
 · rw [if_pos h2, if_pos h2]
 rw [if_neg h2, if_neg h2]
 obtain ⟨o1, -⟩ := or_pw cs.reverse ps [] 0 0 (by omega) (by omega)
 rw [r4_eq cs ps (fun p hm => (fnd_some hpw (o1 p hm).2.1).2)]
end Go.Prf
