/-
  Contracts of given functions, or plain laws that they need. No condition.
-/
import Derived.Test.YtbppcjkpkelbfaaDoorPrzB
import Derived.Test.YtbppcjkpkelbfaaDoorRowU
namespace Go.Prf
open Go Go.Eng Go.Proofs Go.RowKit Go.Tab Go.Plc
set_option linter.unusedVariables false
set_option linter.unusedSimpArgs false
theorem key_int (a b : Int) : keyEq (.raw (.int .i64 a)) (.raw (.int .i64 b)) = (a == b) := rfl
theorem key_nm (a b c d : Int) : keyEq (nmD a b) (nmD c d) = (a == c && b == d) := rfl
theorem str_eq {a b : ByteArray} (h : (a == b) = true) : a = b := by
  obtain ⟨x⟩ := a
  obtain ⟨y⟩ := b
  exact congrArg ByteArray.mk (eq_of_beq (h : (x == y) = true))
theorem eqcs_an {a b : An} (h : eqcs [.int .i64 a.1, .string a.2] [.int .i64 b.1, .string b.2] = true) : a = b := by
  simp only [eqcs, eqc, Bool.and_eq_true] at h
  exact Prod.ext (eq_of_beq h.1) (str_eq h.2)
def InvL (L : List Ca) : Prop := ∀ b ∈ L, b.n ≤ (getC L (.raw (.int .i64 b.cl))).n
theorem hasC_of {L : List Ca} {b : Ca} (hb : b ∈ L) {cl : Int} (h : b.cl = cl) : hasC L (.raw (.int .i64 cl)) = true := by
  unfold hasC
  rw [List.any_eq_true]
  exact ⟨b, hb, by rw [key_int, h]; exact beq_self_eq_true _⟩
theorem getC_cons (c : Ca) (L : List Ca) (cl : Int) : getC (c :: L) (.raw (.int .i64 cl)) = if cl = c.cl then c else getC L (.raw (.int .i64 cl)) := by
  unfold getC
  rw [List.find?_cons, key_int]
  by_cases h : cl = c.cl
  · rw [if_pos h, h, beq_self_eq_true]; rfl
  · rw [if_neg h, beq_eq_false_iff_ne.2 h]
theorem badL_lt {L : List Ca} {c : Ca} (hI : InvL L) (h : badL L c = false) {b : Ca} (hb : b ∈ L) (he : b.cl = c.cl) : b.n < c.n := by
  unfold badL at h
  rw [hasC_of hb he, Bool.true_and] at h
  simp only [Bool.or_eq_false_iff, decide_eq_false_iff_not] at h
  have h1 := hI b hb
  rw [he] at h1
  omega
theorem fm_pw : ∀ (cs L : List Ca) (i : Int), 0 ≤ i → InvL L → fmF L cs i < 0 → (∀ c ∈ cs, ∀ b ∈ L, b.cl = c.cl → b.n < c.n) ∧ cs.Pairwise (fun a b => a.cl = b.cl → a.n < b.n)
  | [], _, _, _, _, _ => ⟨fun c h => (by cases h), List.Pairwise.nil⟩
  | c :: r, L, i, h0, hI, h => by
    rw [fmF] at h
    split at h
    · omega
    · rename_i hb
      have hb2 : badL L c = false := by
        cases hc : badL L c with
        | false => rfl
        | true => rw [hc, Bool.or_true] at hb; exact absurd rfl hb
      have hlt := fun b hb e => badL_lt hI hb2 (b := b) hb e
      have hI2 : InvL (c :: L) := by
        intro b hm
        rw [getC_cons]
        split
        · rename_i e
          rcases List.mem_cons.1 hm with rfl | hm
          · exact Int.le_refl _
          · have := hlt b hm e; omega
        · rename_i e
          rcases List.mem_cons.1 hm with rfl | hm
          · exact absurd rfl e
          · exact hI b hm
      obtain ⟨h1, h2⟩ := fm_pw r (c :: L) (i + 1) (by omega) hI2 h
      refine ⟨fun c' hm b hbm e => ?_, List.Pairwise.cons (fun c' hm e => h1 c' hm c (List.mem_cons_self) e) h2⟩
      rcases List.mem_cons.1 hm with rfl | hm
      · exact hlt b hbm e
      · exact h1 c' hm b (List.mem_cons_of_mem _ hbm) e
theorem uniq : ∀ {cs : List Ca}, cs.Pairwise (fun a b => a.cl = b.cl → a.n < b.n) → ∀ {a b : Ca}, a ∈ cs → b ∈ cs → a.cl = b.cl → a.n = b.n → a = b
  | [], _, a, b, ha, _, _, _ => by cases ha
  | c :: r, h, a, b, ha, hb, e1, e2 => by
    obtain ⟨h1, h2⟩ := List.pairwise_cons.1 h
    rcases List.mem_cons.1 ha with ea | ha2 <;> rcases List.mem_cons.1 hb with eb | hb2
    · rw [ea, eb]
    · subst ea; have := h1 b hb2 e1; omega
    · subst eb; have := h1 a ha2 e1.symm; omega
    · exact uniq h2 ha2 hb2 e1 e2
theorem getN_has {L : List Ca} {d : D} (h : hasN L d = true) : getN L d ∈ L ∧ keyEq d (nmD (getN L d).cl (getN L d).n) = true := by
  unfold getN
  cases hf : L.find? (fun c => keyEq d (nmD c.cl c.n)) with
  | none =>
    unfold hasN at h
    rw [List.any_eq_true] at h
    obtain ⟨c, hc, hk⟩ := h
    exact absurd hk (List.find?_eq_none.1 hf c hc)
  | some c => exact ⟨List.mem_of_find?_eq_some hf, List.find?_some (p := fun (c : Ca) => keyEq d (nmD c.cl c.n)) hf⟩
theorem getN_name {L : List Ca} {cl n : Int} (h : hasN L (nmD cl n) = true) : getN L (nmD cl n) ∈ L ∧ (getN L (nmD cl n)).cl = cl ∧ (getN L (nmD cl n)).n = n := by
  obtain ⟨h1, h2⟩ := getN_has h
  rw [key_nm, Bool.and_eq_true] at h2
  exact ⟨h1, (eq_of_beq h2.1).symm, (eq_of_beq h2.2).symm⟩
theorem or_pw (L : List Ca) : ∀ (ps S : List Pt) (now i : Int), 0 ≤ i → orF L S now ps i < 0 →
    (∀ p ∈ ps, now ≤ p.at' ∧ hasN L (nmD p.cl p.n) = true ∧ (getN L (nmD p.cl p.n)).fr ≤ p.at' ∧ ((getN L (nmD p.cl p.n)).to ≠ -1 → p.at' ≤ (getN L (nmD p.cl p.n)).to)) ∧ ps.Pairwise (fun p q => p.at' ≤ q.at')
  | [], _, _, _, _, _ => ⟨fun p h => (by cases h), List.Pairwise.nil⟩
  | p :: r, S, now, i, h0, h => by
    rw [orF] at h
    split at h
    · omega
    · rename_i hb
      have hb : ordB L S now p = false := by
        cases hc : ordB L S now p with
        | false => rfl
        | true => exact absurd hc hb
      unfold ordB at hb
      simp only [Bool.or_eq_false_iff, decide_eq_false_iff_not, Bool.not_eq_false', Bool.and_eq_false_iff] at hb
      obtain ⟨⟨⟨⟨b1, b2⟩, b3⟩, b4⟩, b5⟩ := hb
      obtain ⟨h1, h2⟩ := or_pw L r (p :: S) p.at' (i + 1) (by omega) h
      refine ⟨fun q hm => ?_, List.Pairwise.cons (fun q hm => (h1 q hm).1) h2⟩
      rcases List.mem_cons.1 hm with rfl | hm
      · refine ⟨by omega, b2, by omega, fun hne => ?_⟩
        rcases b5 with b5 | b5
        · rw [bne_eq_false_iff_eq] at b5; exact absurd b5 hne
        · omega
      · obtain ⟨g1, g2⟩ := h1 q hm
        exact ⟨by omega, g2⟩
theorem aw_all (S : List Pt) : ∀ (cs : List Ca) (i : Int), 0 ≤ i → awF S cs i < 0 → ∀ c ∈ cs, c.to ≠ -1 → ∃ p ∈ S, p.cl = c.cl ∧ p.n = c.n
  | [], _, _, _, c, hm, _ => by cases hm
  | c :: r, i, h0, h, c', hm, hne => by
    rw [awF] at h
    split at h
    · omega
    · rename_i hb
      rcases List.mem_cons.1 hm with rfl | hm
      · have hh : hasS S (nmD c'.cl c'.n) = true := by
          cases hs : hasS S (nmD c'.cl c'.n) with
          | true => rfl
          | false => rw [hs, bne_iff_ne.2 hne] at hb; exact absurd rfl hb
        unfold hasS at hh
        rw [List.any_eq_true] at hh
        obtain ⟨p, hp, hk⟩ := hh
        rw [key_nm, Bool.and_eq_true] at hk
        exact ⟨p, hp, (eq_of_beq hk.1).symm, (eq_of_beq hk.2).symm⟩
      · exact aw_all S r (i + 1) (by omega) h c' hm hne
theorem td_all (L : List Ca) : ∀ (ps : List Pt) (T : T4) (i : Int), 0 ≤ i → tdF L T ps i < 0 → repF T (ps.map fun p => (getN L (nmD p.cl p.n)).o) = ps.map Pt.a
  | [], _, _, _, _ => rfl
  | p :: r, T, i, h0, h => by
    rw [tdF] at h
    split at h
    · omega
    · rename_i hb
      have hb : wrongT L T p = false := by
        cases hc : wrongT L T p with
        | false => rfl
        | true => exact absurd hc hb
      unfold wrongT at hb
      simp only [Bool.or_eq_false_iff, Bool.not_eq_false'] at hb
      have e := eqcs_an (a := tellM T (getN L (nmD p.cl p.n)).o) (b := p.a) hb.1
      have ih := td_all L r (nextT T (getN L (nmD p.cl p.n)).o) (i + 1) (by omega) h
      show tellM T (getN L (nmD p.cl p.n)).o :: repF (nextT T (getN L (nmD p.cl p.n)).o) (r.map fun p => (getN L (nmD p.cl p.n)).o) = p.a :: r.map Pt.a
      rw [ih, e]
theorem opsF_none (p : Pt) : ∀ (cs : List Ca), (∀ c ∈ cs, ¬(c.cl = p.cl ∧ c.n = p.n)) → opsF p cs = []
  | [], _ => rfl
  | c :: r, h => by
    rw [opsF, if_neg (by
      rw [Bool.and_eq_true]
      exact fun e => h c List.mem_cons_self ⟨eq_of_beq e.1, eq_of_beq e.2⟩)]
    exact opsF_none p r fun c hm => h c (List.mem_cons_of_mem _ hm)
theorem opsF_one (p : Pt) : ∀ {cs : List Ca}, cs.Pairwise (fun a b => a.cl = b.cl → a.n < b.n) → ∀ {c : Ca}, c ∈ cs → c.cl = p.cl → c.n = p.n → opsF p cs = [c.o]
  | [], _, c, hm, _, _ => by cases hm
  | d :: r, h, c, hm, e1, e2 => by
    obtain ⟨h1, h2⟩ := List.pairwise_cons.1 h
    rw [opsF]
    by_cases hd : d.cl = p.cl ∧ d.n = p.n
    · have : d = c := uniq h List.mem_cons_self hm (hd.1.trans e1.symm) (hd.2.trans e2.symm)
      subst this
      rw [if_pos (by rw [hd.1, hd.2, beq_self_eq_true, beq_self_eq_true]; rfl), opsF_none p r fun c hm e => by
        have := h1 c hm (hd.1.trans e.1.symm); omega]
    · rcases List.mem_cons.1 hm with rfl | hm
      · exact absurd ⟨e1, e2⟩ hd
      · rw [if_neg (by
          rw [Bool.and_eq_true]
          exact fun e => hd ⟨eq_of_beq e.1, eq_of_beq e.2⟩)]
        exact opsF_one p h2 hm e1 e2
theorem allF_eq {cs : List Ca} (L : List Ca) (hp : cs.Pairwise (fun a b => a.cl = b.cl → a.n < b.n)) (hL : ∀ c ∈ L, c ∈ cs) : ∀ (ps : List Pt), (∀ p ∈ ps, hasN L (nmD p.cl p.n) = true) → allF cs ps = ps.map fun p => (getN L (nmD p.cl p.n)).o
  | [], _ => rfl
  | p :: r, h => by
    obtain ⟨g1, g2, g3⟩ := getN_name (h p List.mem_cons_self)
    rw [allF, opsF_one p hp (hL _ g1) g2 g3, allF_eq L hp hL r fun q hq => h q (List.mem_cons_of_mem _ hq)]
    rfl
theorem small_ops (p : Pt) : ∀ (cs : List Ca), SmallC cs → Small (opsF p cs)
  | [], _ => fun o h => by cases h
  | c :: r, h => by
    have ih := small_ops p r fun c hm => h c (List.mem_cons_of_mem _ hm)
    rw [opsF]
    split
    · intro o ho
      rcases List.mem_cons.1 ho with rfl | ho
      · exact h c List.mem_cons_self
      · exact ih o ho
    · exact ih
theorem small_all (cs : List Ca) (h : SmallC cs) : ∀ ps, Small (allF cs ps)
  | [] => fun o h => by cases h
  | p :: r => fun o ho => by
    rw [allF] at ho
    rcases List.mem_append.1 ho with ho | ho
    · exact small_ops p cs h o ho
    · exact small_all cs h r o ho
theorem at_has {cl n : Int} : ∀ (ps : List Pt) (i : Int), (∃ p ∈ ps, p.cl = cl ∧ p.n = n) → i ≤ atF cl n ps i
  | [], _, h => by obtain ⟨p, h, -⟩ := h; cases h
  | p :: r, i, h => by
    rw [atF]
    split
    · exact Int.le_refl _
    · rename_i hb
      obtain ⟨q, hq, e⟩ := h
      rcases List.mem_cons.1 hq with rfl | hq
      · exact absurd (by rw [e.1, e.2, beq_self_eq_true, beq_self_eq_true]; rfl) hb
      · have := at_has r (i + 1) ⟨q, hq, e⟩; omega
theorem at_get {cl n : Int} : ∀ (ps : List Pt) (i : Int), 0 ≤ i → 0 ≤ atF cl n ps i → ∃ (k : Nat) (p : Pt), atF cl n ps i = i + k ∧ ps[k]? = some p ∧ p.cl = cl ∧ p.n = n
  | [], _, _, h => by rw [atF] at h; omega
  | p :: r, i, h0, h => by
    rw [atF] at h ⊢
    split
    · rename_i hb
      rw [Bool.and_eq_true] at hb
      exact ⟨0, p, by omega, rfl, eq_of_beq hb.1, eq_of_beq hb.2⟩
    · rename_i hb
      rw [if_neg hb] at h
      obtain ⟨k, q, e1, e2, e3⟩ := at_get r (i + 1) (by omega) h
      exact ⟨k + 1, q, by rw [e1]; omega, e2, e3⟩
theorem at_le {ps : List Pt} (h : ps.Pairwise (fun p q => p.at' ≤ q.at')) {k l : Nat} {p q : Pt} (hp : ps[k]? = some p) (hq : ps[l]? = some q) (hkl : k ≤ l) : p.at' ≤ q.at' := by
  obtain ⟨h1, e1⟩ := List.getElem?_eq_some_iff.1 hp
  obtain ⟨h2, e2⟩ := List.getElem?_eq_some_iff.1 hq
  rcases Nat.lt_or_ge k l with hk | hk
  · rw [← e1, ← e2]; exact List.pairwise_iff_getElem.1 h k l h1 h2 hk
  · obtain rfl : k = l := by omega
    rw [hp] at hq
    cases hq
    exact Int.le_refl _
theorem ordOK {cs : List Ca} {ps : List Pt} {i : Int} (hl : cs.length ≤ 100) (hl2 : ps.length ≤ 100) (h : checkP cs ps = (0, i, 0)) : OrdOK cs ps := by
  unfold checkP at h
  rw [if_neg (by omega)] at h
  split at h
  · cases h
  split at h
  · cases h
  split at h
  · cases h
  split at h
  · cases h
  rename_i hf ho ha ht
  have hpw := (fm_pw cs [] 0 (by omega) (fun b h => by cases h) (by omega)).2
  have hsm := small_of (cs := cs) (by omega)
  obtain ⟨o1, o2⟩ := or_pw cs.reverse ps [] 0 0 (by omega) (by omega)
  have haw := aw_all (ps.reverse ++ []) cs 0 (by omega) (by omega)
  have htd := td_all cs.reverse ps T0 0 (by omega) (by omega)
  have hget : ∀ c ∈ cs, ∀ p ∈ ps, p.cl = c.cl → p.n = c.n → getN cs.reverse (nmD p.cl p.n) = c := fun c hc p hp e1 e2 => by
    obtain ⟨g1, g2, g3⟩ := getN_name (o1 p hp).2.1
    exact uniq hpw (List.mem_reverse.1 g1) hc (g2.trans e1) (g3.trans e2)
  refine ⟨fun a hm hne => ?_, fun a ham b hbm hne hlt hb hle => ?_, small_all cs hsm ps, ?_⟩
  · obtain ⟨p, hp, e⟩ := haw a hm hne
    rw [List.append_nil] at hp
    exact at_has ps 0 ⟨p, List.mem_reverse.1 hp, e⟩
  · obtain ⟨k, p, e1, e2, e3, e4⟩ := at_get ps 0 (by omega) hb
    obtain ⟨l, q, f1, f2, f3, f4⟩ := at_get ps 0 (by omega) (Int.le_trans hb hle)
    have hmono := at_le o2 e2 f2 (by omega)
    have hp := List.mem_of_getElem? e2
    have hq := List.mem_of_getElem? f2
    have gp := (o1 p hp).2.2.1
    have gq := (o1 q hq).2.2.2
    rw [hget b hbm p hp e3 e4] at gp
    rw [hget a ham q hq f3 f4] at gq
    have := gq hne
    omega
  · rw [allF_eq cs.reverse hpw (fun c hc => List.mem_reverse.1 hc) ps (fun p hp => (o1 p hp).2.1), htd]
end Go.Prf

namespace Go.Prf
open Go Go.Eng Go.Proofs Go.RowKit Go.Tab Go.Plc
set_option linter.unusedVariables false
set_option maxRecDepth 100000
set_option maxHeartbeats 4000000
abbrev tyOp : Ty := .agg [.int .i64, .str, .str, .str]
abbrev tyAn : Ty := .agg [.int .i64, .str]
abbrev tyCa : Ty := .agg [.int .i64, .int .i64, tyOp, .int .i64, .int .i64, tyAn]
abbrev tyPt : Ty := .agg [.int .i64, .int .i64, .int .i64, tyAn]
def toCa (x : tyCa.Val) : Ca := ⟨x.1, x.2.1, (x.2.2.1.1, x.2.2.1.2.1, x.2.2.1.2.2.1, x.2.2.1.2.2.2.1), x.2.2.2.1, x.2.2.2.2.1, (x.2.2.2.2.2.1.1, x.2.2.2.2.2.1.2.1)⟩
def toPt (x : tyPt.Val) : Pt := ⟨x.1, x.2.1, x.2.2.1, (x.2.2.2.1.1, x.2.2.2.1.2.1)⟩
theorem caD_to (x : tyCa.Val) : tyCa.toD x = caD (toCa x) := rfl
theorem ptD_to (x : tyPt.Val) : tyPt.toD x = ptD (toPt x) := rfl
theorem getD_map {α β : Type} (f : α → β) (l : List α) (a : α) (i : Nat) : f (l.getD i a) = (l.map f).getD i (f a) := by
  simp only [List.getD, List.getElem?_map]
  cases l[i]? <;> rfl
theorem cas_to (l : List tyCa.Val) : (Ty.list tyCa).toD l = .list 10 (l.map toCa).length (caEl (l.map toCa)) := by
  have e : (fun i => tyCa.toD (List.getD (α := tyCa.Val) l i tyCa.dflt)) = caEl (l.map toCa) := by
    funext i
    exact (caD_to _).trans (congrArg caD (getD_map toCa l tyCa.dflt i))
  rw [← e, List.length_map]
  rfl
theorem pts_to (l : List tyPt.Val) : (Ty.list tyPt).toD l = .list 5 (l.map toPt).length (ptEl (l.map toPt)) := by
  have e : (fun i => tyPt.toD (List.getD (α := tyPt.Val) l i tyPt.dflt)) = ptEl (l.map toPt) := by
    funext i
    exact (ptD_to _).trans (congrArg ptD (getD_map toPt l tyPt.dflt i))
  rw [← e, List.length_map]
  rfl
theorem law_order_row (l : List tyCa.Val) (m : List tyPt.Val) : Eng.Spec Tryd.prog Go.Bla.gl 7 [.d ((Ty.list tyCa).toD l), .d ((Ty.list tyPt).toD m)] [] (.d (.raw (.bool true))) [] := by
  rw [cas_to, pts_to]
  exact law_order_ok _ _ fun i h1 h2 h => ordOK h1 h2 h
end Go.Prf
