/-
  Contracts of given functions, plain laws. No condition.
-/
import Derived.Test.YtbppcjkpkelbfaaDoorPrzG
import Derived.Test.YtbppcjkpkelbfaaDoorMapE
import Derived.Test.YtbppcjkpkelbfaaDoorTabN
import Derived.Test.YtbppcjkpkelbfaaDoorPrfG
namespace Go.Prf
open Go Go.Eng Go.Proofs Go.RowKit Go.Tab Go.Plc
def R1 (cs : List Ca) : Prop := (∀ c ∈ cs, badC c = false) ∧ cs.Pairwise (fun a b => badB b a = false)
theorem fm_iff : ∀ (cs L : List Ca) (i : Int), 0 ≤ i → (∀ b ∈ L, badC b = false) → L.Pairwise (fun b b' => badB b b' = false) →
  (fmF L cs i < 0 ↔ R1 cs ∧ ∀ c ∈ cs, ∀ b ∈ L, badB c b = false)
 | [], L, i, _, _, _ => ⟨fun _ => ⟨⟨fun c hc => (by cases hc), List.Pairwise.nil⟩, fun c hc => (by cases hc)⟩, fun _ => (by rw [fmF]; decide)⟩
 | c :: r, L, i, h0, hg, hp => by
  have ea := badL_any c L hg hp
  rw [fmF]
  cases hb : (badC c || badL L c) with
  | true =>
   rw [if_pos rfl]
   refine ⟨fun h => absurd h (by omega), fun ⟨⟨h1, _⟩, h2⟩ => ?_⟩
   rw [h1 c List.mem_cons_self, ea, Bool.false_or, List.any_eq_true] at hb
   obtain ⟨b, hb1, hb2⟩ := hb
   rw [h2 c List.mem_cons_self b hb1] at hb2
   cases hb2
  | false =>
   rw [if_neg (by decide)]
   rw [Bool.or_eq_false_iff] at hb
   have hL : ∀ b ∈ L, badB c b = false := fun b hm => by
    have := hb.2
    rw [ea, List.any_eq_false] at this
    simpa using this b hm
   rw [fm_iff r (c :: L) (i + 1) (by omega) (fun b hm => by
    rcases List.mem_cons.1 hm with rfl | hm
    · exact hb.1
    · exact hg b hm) (List.pairwise_cons.2 ⟨hL, hp⟩)]
   unfold R1
   constructor
   ·
    rintro ⟨⟨h1, h2⟩, h3⟩
    refine ⟨⟨fun x hx => ?_, List.pairwise_cons.2 ⟨fun x hx => h3 x hx c List.mem_cons_self, h2⟩⟩, fun x hx b hm => ?_⟩
    ·
     rcases List.mem_cons.1 hx with rfl | hx
     · exact hb.1
     · exact h1 x hx
    ·
     rcases List.mem_cons.1 hx with rfl | hx
     · exact hL b hm
     · exact h3 x hx b (List.mem_cons_of_mem _ hm)
   ·
    rintro ⟨⟨h1, h2⟩, h3⟩
    obtain ⟨h4, h5⟩ := List.pairwise_cons.1 h2
    refine ⟨⟨fun x hx => h1 x (List.mem_cons_of_mem _ hx), h5⟩, fun x hx b hm => ?_⟩
    rcases List.mem_cons.1 hm with rfl | hm
    · exact h4 x hx
    · exact h3 x (List.mem_cons_of_mem _ hx) b hm
theorem rule1_iff (cs : List Ca) : fmF [] cs 0 < 0 ↔ R1 cs := by
 rw [fm_iff cs [] 0 (by omega) (fun b h => by cases h) List.Pairwise.nil]
 exact ⟨fun h => h.1, fun h => ⟨h, fun c _ b hb => by cases hb⟩⟩
theorem R1.sub {cs : List Ca} (h : R1 cs) (f : Ca → Bool) : R1 (cs.filter f) := ⟨fun c hc => h.1 c ((List.mem_filter.1 hc).1), h.2.filter _⟩
theorem R1.pw {cs : List Ca} (h : R1 cs) : cs.Pairwise (fun a b => a.cl = b.cl → a.n < b.n) := h.2.imp fun hb e => (badB_false e hb).1
def SameN (p q : Pt) : Prop := p.cl = q.cl ∧ p.n = q.n
def OkX (cs : List Ca) (p : Pt) : Prop := ∃ c ∈ cs, c.cl = p.cl ∧ c.n = p.n ∧ c.fr ≤ p.at' ∧ (c.to = -1 ∨ p.at' ≤ c.to)
theorem get_eqN {cs : List Ca} (hpw : cs.Pairwise (fun a b => a.cl = b.cl → a.n < b.n)) {c : Ca} (hc : c ∈ cs) {p : Pt} (e1 : c.cl = p.cl) (e2 : c.n = p.n) : hasN cs.reverse (nmD p.cl p.n) = true ∧ getN cs.reverse (nmD p.cl p.n) = c := by
 have hh : hasN cs.reverse (nmD p.cl p.n) = true := by
  unfold hasN
  rw [List.any_eq_true]
  exact ⟨c, List.mem_reverse.2 hc, by rw [key_nm, e1, e2, beq_self_eq_true, beq_self_eq_true]; rfl⟩
 obtain ⟨g1, g2, g3⟩ := getN_name hh
 exact ⟨hh, uniq hpw (List.mem_reverse.1 g1) hc (g2.trans e1.symm) (g3.trans e2.symm)⟩
theorem hasS_false {S : List Pt} {p : Pt} : hasS S (nmD p.cl p.n) = false ↔ ∀ q ∈ S, ¬ SameN p q := by
 unfold hasS
 rw [List.any_eq_false]
 refine ⟨fun h q hq e => h q hq (by rw [key_nm, e.1, e.2, beq_self_eq_true, beq_self_eq_true]; rfl), fun h q hq e => h q hq ?_⟩
 rw [key_nm, Bool.and_eq_true] at e
 exact ⟨eq_of_beq e.1, eq_of_beq e.2⟩
theorem or_iff {cs : List Ca} (hpw : cs.Pairwise (fun a b => a.cl = b.cl → a.n < b.n)) : ∀ (ps S : List Pt) (now i : Int), 0 ≤ i → ps.Pairwise (fun p q => p.at' ≤ q.at') → (∀ p ∈ ps, now ≤ p.at') →
  (orF cs.reverse S now ps i < 0 ↔ (∀ p ∈ ps, OkX cs p) ∧ ps.Pairwise (fun p q => ¬ SameN p q) ∧ ∀ p ∈ ps, ∀ q ∈ S, ¬ SameN p q)
 | [], S, now, i, _, _, _ => ⟨fun _ => ⟨fun p hp => (by cases hp), List.Pairwise.nil, fun p hp => (by cases hp)⟩, fun _ => (by rw [orF]; decide)⟩
 | p :: r, S, now, i, h0, hm, hn => by
  obtain ⟨hm1, hm2⟩ := List.pairwise_cons.1 hm
  have hb : ordB cs.reverse S now p = false ↔ OkX cs p ∧ ∀ q ∈ S, ¬ SameN p q := by
   unfold ordB
   rw [Bool.or_eq_false_iff, Bool.or_eq_false_iff, Bool.or_eq_false_iff, Bool.or_eq_false_iff, hasS_false]
   constructor
   ·
    rintro ⟨⟨⟨⟨_, h1⟩, h2⟩, h3⟩, h4⟩
    rw [Bool.not_eq_false'] at h1
    obtain ⟨g1, g2, g3⟩ := getN_name h1
    refine ⟨⟨_, List.mem_reverse.1 g1, g2, g3, Int.not_lt.1 (of_decide_eq_false h3), ?_⟩, h2⟩
    rcases Bool.and_eq_false_iff.1 h4 with h4 | h4
    · exact .inl (by rwa [bne_eq_false_iff_eq] at h4)
    · exact .inr (Int.not_lt.1 (of_decide_eq_false h4))
   ·
    rintro ⟨⟨c, hc, e1, e2, h3, h4⟩, h2⟩
    obtain ⟨k1, k2⟩ := get_eqN hpw hc e1 e2
    rw [k1, k2]
    refine ⟨⟨⟨⟨decide_eq_false (Int.not_lt.2 (hn p List.mem_cons_self)), rfl⟩, h2⟩, decide_eq_false (Int.not_lt.2 h3)⟩, ?_⟩
    rcases h4 with h4 | h4
    · rw [h4]; rfl
    · rw [decide_eq_false (Int.not_lt.2 h4), Bool.and_false]
  rw [orF]
  have ih := or_iff hpw r (p :: S) p.at' (i + 1) (by omega) hm2 hm1
  cases ho : ordB cs.reverse S now p with
  | true =>
   rw [if_pos rfl]
   refine ⟨fun h => absurd h (by omega), fun ⟨h1, _, h3⟩ => ?_⟩
   have := hb.2 ⟨h1 p List.mem_cons_self, h3 p List.mem_cons_self⟩
   rw [ho] at this; cases this
  | false =>
   rw [if_neg (by decide), ih]
   obtain ⟨k1, k2⟩ := hb.1 ho
   constructor
   ·
    rintro ⟨h1, h2, h3⟩
    refine ⟨fun q hq => ?_, List.pairwise_cons.2 ⟨fun q hq e => h3 q hq p List.mem_cons_self ⟨e.1.symm, e.2.symm⟩, h2⟩, fun q hq x hx => ?_⟩
    ·
     rcases List.mem_cons.1 hq with rfl | hq
     · exact k1
     · exact h1 q hq
    ·
     rcases List.mem_cons.1 hq with rfl | hq
     · exact k2 x hx
     · exact h3 q hq x (List.mem_cons_of_mem _ hx)
   ·
    rintro ⟨h1, h2, h3⟩
    obtain ⟨h4, h5⟩ := List.pairwise_cons.1 h2
    refine ⟨fun q hq => h1 q (List.mem_cons_of_mem _ hq), h5, fun q hq x hx => ?_⟩
    rcases List.mem_cons.1 hx with rfl | hx
    · exact fun e => h4 q hq ⟨e.1.symm, e.2.symm⟩
    · exact h3 q (List.mem_cons_of_mem _ hq) x hx
theorem aw_iff (S : List Pt) : ∀ (cs : List Ca) (i : Int), 0 ≤ i → (awF S cs i < 0 ↔ ∀ c ∈ cs, c.to = -1 ∨ ∃ p ∈ S, p.cl = c.cl ∧ p.n = c.n)
 | [], i, _ => ⟨fun _ c hc => (by cases hc), fun _ => (by rw [awF]; decide)⟩
 | c :: r, i, h0 => by
  have hs : hasS S (nmD c.cl c.n) = true ↔ ∃ p ∈ S, p.cl = c.cl ∧ p.n = c.n := by
   unfold hasS
   rw [List.any_eq_true]
   constructor
   ·
    rintro ⟨p, hp, hk⟩
    rw [key_nm, Bool.and_eq_true] at hk
    exact ⟨p, hp, (eq_of_beq hk.1).symm, (eq_of_beq hk.2).symm⟩
   ·
    rintro ⟨p, hp, e1, e2⟩
    exact ⟨p, hp, by rw [key_nm, e1, e2, beq_self_eq_true, beq_self_eq_true]; rfl⟩
  rw [awF]
  have ih := aw_iff S r (i + 1) (by omega)
  cases hb : (c.to != -1 && !hasS S (nmD c.cl c.n)) with
  | true =>
   rw [if_pos rfl]
   refine ⟨fun h => absurd h (by omega), fun h => ?_⟩
   rw [Bool.and_eq_true] at hb
   rcases h c List.mem_cons_self with h | h
   · rw [h] at hb; exact absurd hb.1 (by decide)
   · rw [hs.2 h] at hb; exact absurd hb.2 (by decide)
  | false =>
   rw [if_neg (by decide), ih]
   refine ⟨fun h x hx => ?_, fun h x hx => h x (List.mem_cons_of_mem _ hx)⟩
   rcases List.mem_cons.1 hx with rfl | hx
   ·
    rcases Bool.and_eq_false_iff.1 hb with hb | hb
    · exact .inl (by rwa [bne_eq_false_iff_eq] at hb)
    · rw [Bool.not_eq_false'] at hb; exact .inr (hs.1 hb)
   · exact h x hx
def TdOK (g : Pt → Ca) : T4 → List Pt → Prop
 | _, [] => True
 | T, p :: r => (!eqcs [.int .i64 (tellM T (g p).o).1, .string (tellM T (g p).o).2] [.int .i64 p.a.1, .string p.a.2] || ((g p).to != -1 && !eqcs [.int .i64 (tellM T (g p).o).1, .string (tellM T (g p).o).2] [.int .i64 (g p).a.1, .string (g p).a.2])) = false ∧ TdOK g (nextT T (g p).o) r
theorem td_iff (L : List Ca) : ∀ (ps : List Pt) (T : T4) (i : Int), 0 ≤ i → (tdF L T ps i < 0 ↔ TdOK (fun p => getN L (nmD p.cl p.n)) T ps)
 | [], T, i, _ => ⟨fun _ => trivial, fun _ => (by rw [tdF]; decide)⟩
 | p :: r, T, i, h0 => by
  have ih := td_iff L r (nextT T (getN L (nmD p.cl p.n)).o) (i + 1) (by omega)
  rw [tdF, TdOK]
  unfold wrongT
  split
  ·
   rename_i hb
   exact ⟨fun h => absurd h (by omega), fun h => absurd (hb.symm.trans h.1) (by decide)⟩
  ·
   rename_i hb
   rw [ih]
   exact ⟨fun h => ⟨Bool.eq_false_iff.2 hb, h⟩, fun h => h.2⟩
theorem pick_next (T : T4) (o : OpT) (s : Int) (h0 : 0 ≤ s) (h4 : s < 4) (hne : s ≠ plc o.2.1) : pickT (nextT T o) s = pickT T s := by
 have hb := plc_bd o.2.1
 unfold nextT putT pickT
 have hs : s = 0 ∨ s = 1 ∨ s = 2 ∨ s = 3 := by omega
 have hq : plc o.2.1 = 0 ∨ plc o.2.1 = 1 ∨ plc o.2.1 = 2 ∨ plc o.2.1 = 3 := by omega
 rcases hs with rfl | rfl | rfl | rfl <;> rcases hq with e | e | e | e <;> rw [e] at hne ⊢ <;> first | rfl | exact absurd rfl hne
theorem pick_same {T U : T4} {o : OpT} (h : pickT T (plc o.2.1) = pickT U (plc o.2.1)) : tellM T o = tellM U o ∧ pickT (nextT T o) (plc o.2.1) = pickT (nextT U o) (plc o.2.1) := by
 have hr : resM T o = resM U o := by unfold resM; rw [h]
 refine ⟨by unfold tellM; rw [hr], ?_⟩
 have hb := plc_bd o.2.1
 unfold nextT putT pickT
 rw [hr]
 have hq : plc o.2.1 = 0 ∨ plc o.2.1 = 1 ∨ plc o.2.1 = 2 ∨ plc o.2.1 = 3 := by omega
 rcases hq with e | e | e | e <;> rw [e] <;> rfl
theorem td_local (g : Pt → Ca) (f : Pt → Int) : ∀ (ps : List Pt), (∀ p ∈ ps, plc (g p).o.2.1 = f p) → ∀ (T : T4) (U : Int → T4), (∀ s, 0 ≤ s → s < 4 → pickT T s = pickT (U s) s) →
  (TdOK g T ps ↔ ∀ s, 0 ≤ s → s < 4 → TdOK g (U s) (ps.filter fun p => f p == s))
 | [], _, T, U, _ => ⟨fun _ s _ _ => trivial, fun _ => trivial⟩
 | p :: r, hf, T, U, hU => by
  have hp := hf p List.mem_cons_self
  have hb := plc_bd (g p).o.2.1
  rw [hp] at hb
  obtain ⟨t1, t2⟩ := pick_same (T := T) (U := U (f p)) (o := (g p).o) (by rw [hp]; exact hU _ hb.1 hb.2)
  have ih := td_local g f r (fun q hq => hf q (List.mem_cons_of_mem _ hq)) (nextT T (g p).o) (fun s => if s = f p then nextT (U s) (g p).o else U s) (fun s h0 h4 => by
   by_cases e : s = f p
   · rw [if_pos e, e, ← hp]; rw [hp, ← hp]; rw [hp]; rw [← hp] ; exact (by rw [hp] at t2 ⊢; exact t2)
   · rw [if_neg e, pick_next T _ s h0 h4 (by rw [hp]; exact e)]; exact hU s h0 h4)
  rw [TdOK, ih]
  constructor
  ·
   rintro ⟨h1, h2⟩ s h0 h4
   have h3 := h2 s h0 h4
   rw [List.filter_cons]
   by_cases e : f p = s
   ·
    rw [if_pos (by rw [e]; exact beq_self_eq_true _), TdOK]
    rw [if_pos e.symm] at h3
    rw [← e, ← t1]
    exact ⟨h1, by rw [← e] at h3; exact h3⟩
   ·
    rw [if_neg (by intro h; exact e (eq_of_beq h))]
    rw [if_neg (fun h => e h.symm)] at h3
    exact h3
  ·
   intro h
   have h1 := h (f p) hb.1 hb.2
   rw [List.filter_cons, if_pos (beq_self_eq_true _), TdOK, ← t1] at h1
   refine ⟨h1.1, fun s h0 h4 => ?_⟩
   by_cases e : s = f p
   · rw [if_pos e, e]; exact h1.2
   ·
    rw [if_neg e]
    have h2 := h s h0 h4
    rw [List.filter_cons, if_neg (by intro h; exact e (eq_of_beq h).symm)] at h2
    exact h2
def AllOK (cs : List Ca) (ps : List Pt) : Prop := (∀ p ∈ ps, OkX cs p) ∧ ps.Pairwise (fun p q => ¬ SameN p q) ∧ (∀ c ∈ cs, c.to = -1 ∨ ∃ p ∈ ps, p.cl = c.cl ∧ p.n = c.n) ∧ TdOK (fun p => getN cs.reverse (nmD p.cl p.n)) T0 ps
theorem check_iff {cs : List Ca} {ps : List Pt} (hl : cs.length ≤ 2000) (hl2 : ps.length ≤ 2000) (h1 : R1 cs) (hm : ps.Pairwise (fun p q => p.at' ≤ q.at')) (h0 : ∀ p ∈ ps, 0 ≤ p.at') : (checkP cs ps).1 = 0 ↔ AllOK cs ps := by
 have e1 := (rule1_iff cs).2 h1
 have e2 := or_iff h1.pw ps [] 0 0 (by omega) hm h0
 have e3 := aw_iff (ps.reverse ++ []) cs 0 (by omega)
 have e4 := td_iff cs.reverse ps T0 0 (by omega)
 unfold checkP AllOK
 rw [if_neg (by omega), if_neg (by omega)]
 have e2' : orF cs.reverse [] 0 ps 0 < 0 ↔ (∀ p ∈ ps, OkX cs p) ∧ ps.Pairwise (fun p q => ¬ SameN p q) := by
  rw [e2]; exact ⟨fun h => ⟨h.1, h.2.1⟩, fun h => ⟨h.1, h.2, fun p _ q hq => by cases hq⟩⟩
 have e3' : awF (ps.reverse ++ []) cs 0 < 0 ↔ ∀ c ∈ cs, c.to = -1 ∨ ∃ p ∈ ps, p.cl = c.cl ∧ p.n = c.n := by
  rw [e3, List.append_nil]
  simp only [List.mem_reverse]
 by_cases h2 : 0 ≤ orF cs.reverse [] 0 ps 0
 ·
  rw [if_pos h2]
  exact ⟨fun h => absurd (show (2 : Int) = 0 from h) (by decide), fun h => absurd (e2'.2 ⟨h.1, h.2.1⟩) (by omega)⟩
 rw [if_neg h2]
 by_cases h3 : 0 ≤ awF (ps.reverse ++ []) cs 0
 ·
  rw [if_pos h3]
  exact ⟨fun h => absurd (show (3 : Int) = 0 from h) (by decide), fun h => absurd (e3'.2 h.2.2.1) (by omega)⟩
 rw [if_neg h3]
 by_cases h4 : 0 ≤ tdF cs.reverse T0 ps 0
 ·
  rw [if_pos h4]
  exact ⟨fun h => absurd (show (4 : Int) = 0 from h) (by decide), fun h => absurd (e4.2 h.2.2.2) (by omega)⟩
 rw [if_neg h4]
 obtain ⟨k1, k2⟩ := e2'.1 (by omega)
 exact ⟨fun _ => ⟨k1, k2, e3'.1 (by omega), e4.1 (by omega)⟩, fun _ => rfl⟩
theorem place_named {cs : List Ca} (hpw : cs.Pairwise (fun a b => a.cl = b.cl → a.n < b.n)) : ∀ {c : Ca}, c ∈ cs → placeF c.cl c.n cs = plc c.o.2.1 := by
 intro c hc
 induction cs with
 | nil => cases hc
 | cons d r ih =>
  obtain ⟨h1, h2⟩ := List.pairwise_cons.1 hpw
  rw [placeF]
  by_cases e : d.cl = c.cl ∧ d.n = c.n
  ·
   have : d = c := uniq hpw List.mem_cons_self hc e.1 e.2
   rw [if_pos (by rw [e.1, e.2, beq_self_eq_true, beq_self_eq_true]; rfl), this]
  ·
   rw [if_neg (by rw [Bool.and_eq_true]; exact fun h => e ⟨eq_of_beq h.1, eq_of_beq h.2⟩)]
   rcases List.mem_cons.1 hc with rfl | hc
   · exact absurd ⟨rfl, rfl⟩ e
   · exact ih h2 hc
theorem place_bd (cl nu : Int) : ∀ cs : List Ca, 0 ≤ placeF cl nu cs ∧ placeF cl nu cs < 4
 | [] => by rw [placeF]; omega
 | c :: r => by
  rw [placeF]
  split
  · exact plc_bd _
  · exact place_bd cl nu r
theorem okx_place {cs : List Ca} (h1 : R1 cs) {p : Pt} (h : OkX cs p) : ∃ c ∈ cs, c.cl = p.cl ∧ c.n = p.n ∧ placeF p.cl p.n cs = plc c.o.2.1 := by
 obtain ⟨c, hc, e1, e2, -⟩ := h
 exact ⟨c, hc, e1, e2, by rw [← e1, ← e2]; exact place_named h1.pw hc⟩
theorem td_congr {g g' : Pt → Ca} : ∀ (ps : List Pt) (T : T4), (∀ p ∈ ps, g p = g' p) → (TdOK g T ps ↔ TdOK g' T ps)
 | [], _, _ => Iff.rfl
 | p :: r, T, h => by
  rw [TdOK, TdOK, h p List.mem_cons_self, td_congr r _ fun q hq => h q (List.mem_cons_of_mem _ hq)]
theorem pw_local (f : Pt → Int) (hb : ∀ p, 0 ≤ f p ∧ f p < 4) (hn : ∀ p q, SameN p q → f p = f q) : ∀ ps : List Pt, (∀ s, 0 ≤ s → s < 4 → (ps.filter fun p => f p == s).Pairwise (fun p q => ¬ SameN p q)) → ps.Pairwise (fun p q => ¬ SameN p q)
 | [], _ => List.Pairwise.nil
 | p :: r, h => by
  refine List.pairwise_cons.2 ⟨fun q hq e => ?_, pw_local f hb hn r fun s h0 h4 => (h s h0 h4).sublist ((List.sublist_cons_self p r).filter _)⟩
  have h1 := h (f p) (hb p).1 (hb p).2
  rw [List.filter_cons, if_pos (beq_self_eq_true _)] at h1
  exact (List.pairwise_cons.1 h1).1 q (List.mem_filter.2 ⟨hq, by rw [hn p q e]; exact beq_self_eq_true _⟩) e
theorem local_iff {cs : List Ca} {ps : List Pt} (h1 : R1 cs) : AllOK cs ps ↔ ∀ s : Int, 0 ≤ s → s < 4 → AllOK (cs.filter (inS s)) (ps.filter (inR cs s)) := by
 have hsub : ∀ s, R1 (cs.filter (inS s)) := fun s => h1.sub _
 have hg : ∀ (s : Int) (c : Ca), c ∈ cs → plc c.o.2.1 = s → ∀ p : Pt, c.cl = p.cl → c.n = p.n → getN cs.reverse (nmD p.cl p.n) = c ∧ getN (cs.filter (inS s)).reverse (nmD p.cl p.n) = c := fun s c hc hs p e1 e2 =>
  ⟨(get_eqN h1.pw hc e1 e2).2, (get_eqN (hsub s).pw (List.mem_filter.2 ⟨hc, by unfold inS; rw [hs]; exact beq_self_eq_true _⟩) e1 e2).2⟩
 have tds : (∀ p ∈ ps, OkX cs p) → (TdOK (fun p => getN cs.reverse (nmD p.cl p.n)) T0 ps ↔ ∀ s : Int, 0 ≤ s → s < 4 → TdOK (fun p => getN (cs.filter (inS s)).reverse (nmD p.cl p.n)) T0 (ps.filter (inR cs s))) := fun hok => by
  have hx := td_local (fun p => getN cs.reverse (nmD p.cl p.n)) (fun p => placeF p.cl p.n cs) ps (fun p hp => by
   obtain ⟨c, hc, e1, e2, e3⟩ := okx_place h1 (hok p hp)
   rw [e3]
   exact congrArg (fun c : Ca => plc c.o.2.1) (get_eqN h1.pw hc e1 e2).2) T0 (fun _ => T0) (fun s _ _ => rfl)
  rw [hx]
  refine forall_congr' fun s => forall_congr' fun h0 => forall_congr' fun h4 => td_congr _ _ fun p hp => ?_
  obtain ⟨hp1, hp2⟩ := List.mem_filter.1 hp
  obtain ⟨c, hc, e1, e2, e3⟩ := okx_place h1 (hok p hp1)
  have hs : plc c.o.2.1 = s := e3.symm.trans (eq_of_beq hp2)
  obtain ⟨k1, k2⟩ := hg s c hc hs p e1 e2
  exact k1.trans k2.symm
 constructor
 ·
  rintro ⟨a1, a2, a3, a4⟩ s h0 h4
  refine ⟨fun p hp => ?_, a2.filter _, fun c hc => ?_, (tds a1).1 a4 s h0 h4⟩
  ·
   obtain ⟨hp1, hp2⟩ := List.mem_filter.1 hp
   obtain ⟨c, hc, e1, e2, e3, e4⟩ := a1 p hp1
   have hpl : placeF p.cl p.n cs = plc c.o.2.1 := by rw [← e1, ← e2]; exact place_named h1.pw hc
   refine ⟨c, List.mem_filter.2 ⟨hc, ?_⟩, e1, e2, e3, e4⟩
   unfold inS
   rw [← hpl]; exact hp2
  ·
   obtain ⟨hc1, hc2⟩ := List.mem_filter.1 hc
   rcases a3 c hc1 with h | ⟨p, hp, e1, e2⟩
   · exact .inl h
   ·
    refine .inr ⟨p, List.mem_filter.2 ⟨hp, ?_⟩, e1, e2⟩
    unfold inR
    rw [e1, e2, place_named h1.pw hc1]
    exact hc2
 ·
  intro h
  have a1 : ∀ p ∈ ps, OkX cs p := fun p hp => by
   have hb := place_bd p.cl p.n cs
   obtain ⟨c, hc, k⟩ := (h _ hb.1 hb.2).1 p (List.mem_filter.2 ⟨hp, beq_self_eq_true _⟩)
   exact ⟨c, (List.mem_filter.1 hc).1, k⟩
  refine ⟨a1, pw_local (fun p => placeF p.cl p.n cs) (fun p => place_bd _ _ cs) (fun p q e => by rw [e.1, e.2]) ps fun s h0 h4 => (h s h0 h4).2.1, fun c hc => ?_, (tds a1).2 fun s h0 h4 => (h s h0 h4).2.2.2⟩
  have hb := plc_bd c.o.2.1
  rcases (h _ hb.1 hb.2).2.2.1 c (List.mem_filter.2 ⟨hc, beq_self_eq_true _⟩) with h | ⟨p, hp, k⟩
  · exact .inl h
  · exact .inr ⟨p, (List.mem_filter.1 hp).1, k⟩
end Go.Prf

namespace Go.Tab
open Go Go.Eng
theorem hasM_append (a b : List Rw) (x : ByteArray) : hasM (a ++ b) x = (hasM a x || hasM b x) := by unfold hasM; rw [List.any_append]
end Go.Tab

namespace Go.Tab
open Go Go.Eng
theorem sorted_uniq {l : List Rw} (h : Sorted l) {i j : Nat} (hi : i < l.length) (hj : j < l.length) (he : l[i].1 = l[j].1) : i = j := by
 have h1 := List.pairwise_iff_getElem.1 h
 rcases Nat.lt_trichotomy i j with hh | hh | hh
 ·
  have := h1 i j hi hj hh
  unfold ltB at this; rw [he, bl_irrefl] at this; cases this
 · exact hh
 ·
  have := h1 j i hj hi hh
  unfold ltB at this; rw [he, bl_irrefl] at this; cases this
theorem had_mem {l : List Rw} (h : Sorted l) {key v : ByteArray} (hm : (key, v) ∈ l) : hadM l key = v := by
 have hh : hasM l key = true := by unfold hasM; exact List.any_eq_true.2 ⟨_, hm, by simp⟩
 obtain ⟨hp, hk⟩ := hasM_true h hh
 obtain ⟨j, hj, e⟩ := List.getElem_of_mem hm
 unfold hadM; rw [if_pos hh]
 rw [getD_get hp] at hk ⊢
 have := sorted_uniq h hp hj (by rw [hk, e])
 subst this; rw [e]
theorem has_erase {l : List Rw} (h : Sorted l) (key : ByteArray) (hh : hasM l key = true) : hasM (l.eraseIdx (posM l key)) key = false := by
 obtain ⟨hp, hk⟩ := hasM_true h hh
 cases hx : hasM (l.eraseIdx (posM l key)) key with
 | false => rfl
 | true =>
  unfold hasM at hx
  obtain ⟨r, hr, e⟩ := List.any_eq_true.1 hx
  have e : r.1 = key := of_decide_eq_true e
  obtain ⟨i, hi, hne, e2⟩ := List.mem_eraseIdx_iff_getElem.1 hr
  rw [getD_get hp] at hk
  exact absurd (sorted_uniq h hi hp (by rw [e2, e, hk])) hne
end Go.Tab

namespace Go.Prf
open Go Go.Eng Go.Tab Go.Plc
def idxR (q : List Rw) (key : ByteArray) : Nat := q.findIdx fun r => decide (r.1 = key)
def atI (q : List Rw) (key : ByteArray) : Int := if hasM q key then (idxR q key : Int) else -1
def rhad (q : List Rw) (key : ByteArray) : ByteArray := if hasM q key then (q.getD (idxR q key) (ByteArray.empty, ByteArray.empty)).2 else ByteArray.empty
def rput (q : List Rw) (key now : ByteArray) : List Rw := if hasM q key then q.set (idxR q key) (key, now) else q ++ [(key, now)]
def rdel (q : List Rw) (key : ByteArray) : List Rw := q.filter fun r => !decide (r.1 = key)
def rnow (q : List Rw) (k : Int) (key val : ByteArray) : ByteArray := if k = 3 then rhad q key ++ val else val
def rdoM (q : List Rw) (k : Int) (key val old : ByteArray) : ByteArray × Int × List Rw :=
 if checkM k key val old = 0 then
  if k = 2 ∨ k = 3 then
   if hasM q key = false ∧ 16 ≤ q.length then (ByteArray.empty, 5, q)
   else if 64 < (rnow q k key val).size then (ByteArray.empty, 2, q)
   else (if k = 3 then rnow q k key val else rhad q key, 0, rput q key (rnow q k key val))
  else if hasM q key then
   if k = 5 then (if rhad q key = old then (rhad q key, 0, rput q key val) else (ByteArray.empty, 7, q))
   else if k = 4 then (rhad q key, 0, rdel q key)
   else (rhad q key, 0, q)
  else (ByteArray.empty, 6, q)
 else (ByteArray.empty, checkM k key val old, q)
def rrow (l : List Rw) : Th := .row 142 2 l.length (rowEl l)
def rm0 (q x y z : List Rw) : List (Nat × Th) := [(0, .obj 107 [.own 1, .own 2, .own 3, .own 4]), (1, rrow q), (2, rrow x), (3, rrow y), (4, rrow z)]
def ru0 (q x y z : List Rw) : List (Nat × Th) := [(0, .obj 107 [.own 5, .own 6, .own 7, .own 8]), (5, rrow q), (6, rrow x), (7, rrow y), (8, rrow z)]
def mRAt0 (q x y z : List Rw) : Mo
 | [.ref 0 0, .d (.raw (.string key))], [(0, .obj M [.own 1, .own 2, .own 3, .own 4]), (1, .row R1 2 n1 l1), (2, .row R2 2 n2 l2), (3, .row R3 2 n3 l3), (4, .row R4 2 n4 l4)] => some (.d (.raw (.int .i64 (atI q key))), rm0 q x y z, [(M == 107 && R1 == 142 && R2 == R1 && R3 == R1 && R4 == R1) = true, n1 = q.length, l1 = rowEl q, n2 = x.length, l2 = rowEl x, n3 = y.length, l3 = rowEl y, n4 = z.length, l4 = rowEl z])
 | _, _ => none
def rm1 (q x y z : List Rw) : List (Nat × Th) := [(0, .obj 107 [.own 1, .own 2, .own 3, .own 4]), (1, rrow x), (2, rrow q), (3, rrow y), (4, rrow z)]
def ru1 (q x y z : List Rw) : List (Nat × Th) := [(0, .obj 107 [.own 5, .own 6, .own 7, .own 8]), (5, rrow x), (6, rrow q), (7, rrow y), (8, rrow z)]
def mRAt1 (q x y z : List Rw) : Mo
 | [.ref 0 1, .d (.raw (.string key))], [(0, .obj M [.own 1, .own 2, .own 3, .own 4]), (1, .row R1 2 n1 l1), (2, .row R2 2 n2 l2), (3, .row R3 2 n3 l3), (4, .row R4 2 n4 l4)] => some (.d (.raw (.int .i64 (atI q key))), rm1 q x y z, [(M == 107 && R1 == 142 && R2 == R1 && R3 == R1 && R4 == R1) = true, n1 = x.length, l1 = rowEl x, n2 = q.length, l2 = rowEl q, n3 = y.length, l3 = rowEl y, n4 = z.length, l4 = rowEl z])
 | _, _ => none
def rm2 (q x y z : List Rw) : List (Nat × Th) := [(0, .obj 107 [.own 1, .own 2, .own 3, .own 4]), (1, rrow x), (2, rrow y), (3, rrow q), (4, rrow z)]
def ru2 (q x y z : List Rw) : List (Nat × Th) := [(0, .obj 107 [.own 5, .own 6, .own 7, .own 8]), (5, rrow x), (6, rrow y), (7, rrow q), (8, rrow z)]
def mRAt2 (q x y z : List Rw) : Mo
 | [.ref 0 2, .d (.raw (.string key))], [(0, .obj M [.own 1, .own 2, .own 3, .own 4]), (1, .row R1 2 n1 l1), (2, .row R2 2 n2 l2), (3, .row R3 2 n3 l3), (4, .row R4 2 n4 l4)] => some (.d (.raw (.int .i64 (atI q key))), rm2 q x y z, [(M == 107 && R1 == 142 && R2 == R1 && R3 == R1 && R4 == R1) = true, n1 = x.length, l1 = rowEl x, n2 = y.length, l2 = rowEl y, n3 = q.length, l3 = rowEl q, n4 = z.length, l4 = rowEl z])
 | _, _ => none
def rm3 (q x y z : List Rw) : List (Nat × Th) := [(0, .obj 107 [.own 1, .own 2, .own 3, .own 4]), (1, rrow x), (2, rrow y), (3, rrow z), (4, rrow q)]
def ru3 (q x y z : List Rw) : List (Nat × Th) := [(0, .obj 107 [.own 5, .own 6, .own 7, .own 8]), (5, rrow x), (6, rrow y), (7, rrow z), (8, rrow q)]
def mRAt3 (q x y z : List Rw) : Mo
 | [.ref 0 3, .d (.raw (.string key))], [(0, .obj M [.own 1, .own 2, .own 3, .own 4]), (1, .row R1 2 n1 l1), (2, .row R2 2 n2 l2), (3, .row R3 2 n3 l3), (4, .row R4 2 n4 l4)] => some (.d (.raw (.int .i64 (atI q key))), rm3 q x y z, [(M == 107 && R1 == 142 && R2 == R1 && R3 == R1 && R4 == R1) = true, n1 = x.length, l1 = rowEl x, n2 = y.length, l2 = rowEl y, n3 = z.length, l3 = rowEl z, n4 = q.length, l4 = rowEl q])
 | _, _ => none
def Q0 : Orc := (Orc.none gz0).add 56 false mChk
def Q10 (q x y z : List Rw) : Orc := Q0.add 63 false (mRAt0 q x y z)
def ra0 (q x y z : List Rw) (key : ByteArray) (n i : Int) : St := mk 5 23 [(1, .d (.raw (.string key))), (10, .own 1), (11, .d (.raw (.int .i64 n))), (12, .d (.raw (.int .i64 i)))] (rm0 q x y z)
def rl0 (q x y z : List Rw) (k : Int) (key val old had : ByteArray) (r : List Rw) (n i : Int) : St := mk 5 143 [(0, .ref 0 0), (3, .ref 5 0), (11, .d (.raw (.string had))), (12, .own 6), (122, .own 1), (123, .d (.raw (.int .i64 n))), (124, .d (.raw (.int .i64 i)))] (rm0 q x y z ++ [(5, .obj 41 [.d (.raw (.int .i64 k)), .d (.raw (.string key)), .d (.raw (.string val)), .d (.raw (.string old))]), (6, rrow r)])
def Q11 (q x y z : List Rw) : Orc := Q0.add 63 false (mRAt1 q x y z)
def ra1 (q x y z : List Rw) (key : ByteArray) (n i : Int) : St := mk 5 23 [(1, .d (.raw (.string key))), (10, .own 2), (11, .d (.raw (.int .i64 n))), (12, .d (.raw (.int .i64 i)))] (rm1 q x y z)
def rl1 (q x y z : List Rw) (k : Int) (key val old had : ByteArray) (r : List Rw) (n i : Int) : St := mk 5 143 [(0, .ref 0 1), (3, .ref 5 0), (11, .d (.raw (.string had))), (12, .own 6), (122, .own 2), (123, .d (.raw (.int .i64 n))), (124, .d (.raw (.int .i64 i)))] (rm1 q x y z ++ [(5, .obj 41 [.d (.raw (.int .i64 k)), .d (.raw (.string key)), .d (.raw (.string val)), .d (.raw (.string old))]), (6, rrow r)])
def Q12 (q x y z : List Rw) : Orc := Q0.add 63 false (mRAt2 q x y z)
def ra2 (q x y z : List Rw) (key : ByteArray) (n i : Int) : St := mk 5 23 [(1, .d (.raw (.string key))), (10, .own 3), (11, .d (.raw (.int .i64 n))), (12, .d (.raw (.int .i64 i)))] (rm2 q x y z)
def rl2 (q x y z : List Rw) (k : Int) (key val old had : ByteArray) (r : List Rw) (n i : Int) : St := mk 5 143 [(0, .ref 0 2), (3, .ref 5 0), (11, .d (.raw (.string had))), (12, .own 6), (122, .own 3), (123, .d (.raw (.int .i64 n))), (124, .d (.raw (.int .i64 i)))] (rm2 q x y z ++ [(5, .obj 41 [.d (.raw (.int .i64 k)), .d (.raw (.string key)), .d (.raw (.string val)), .d (.raw (.string old))]), (6, rrow r)])
def Q13 (q x y z : List Rw) : Orc := Q0.add 63 false (mRAt3 q x y z)
def ra3 (q x y z : List Rw) (key : ByteArray) (n i : Int) : St := mk 5 23 [(1, .d (.raw (.string key))), (10, .own 4), (11, .d (.raw (.int .i64 n))), (12, .d (.raw (.int .i64 i)))] (rm3 q x y z)
def rl3 (q x y z : List Rw) (k : Int) (key val old had : ByteArray) (r : List Rw) (n i : Int) : St := mk 5 143 [(0, .ref 0 3), (3, .ref 5 0), (11, .d (.raw (.string had))), (12, .own 6), (122, .own 4), (123, .d (.raw (.int .i64 n))), (124, .d (.raw (.int .i64 i)))] (rm3 q x y z ++ [(5, .obj 41 [.d (.raw (.int .i64 k)), .d (.raw (.string key)), .d (.raw (.string val)), .d (.raw (.string old))]), (6, rrow r)])
end Go.Prf
