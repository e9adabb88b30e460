/-
  Part of the engine: abstract states of a call, and that the operations do what is told of them. No condition.
-/
import Derived.Test.YtbppcjkpkelbfaaDoorEng16
namespace Go.Eng
open Go Go.RowKit Go.Lib
variable {P : Program} {gl : Nat → Option (List D)} {C : Cx} {E E' : Env} {s s' : St} {a : Act} {w w' : World}
inductive Cnd where
 | p (h : Prop)
 | same (s s' : St) (d d' : List Bool)
def Cnd.OK : Cnd → Prop
 | .p h => h
 | .same s s' d d' => s = s' ∧ d = d'
def CndsOK : List Cnd → Prop
 | [] => True
 | c :: cs => c.OK ∧ CndsOK cs
theorem CndsOK.append {ps qs : List Cnd} (h : CndsOK (ps ++ qs)) : CndsOK ps ∧ CndsOK qs := by
 induction ps with
 | nil => exact ⟨trivial, h⟩
 | cons p ps ih => exact ⟨⟨h.1, (ih h.2).1⟩, (ih h.2).2⟩
def cps (cs : List Prop) : List Cnd := cs.map .p
theorem cps_ok : ∀ {cs : List Prop}, CndsOK (cps cs) → Conds cs
 | [], _ => trivial
 | _ :: _, h => ⟨h.1, cps_ok h.2⟩
def shown : List Cnd → List Prop
 | [] => []
 | .p h :: r => h :: shown r
 | _ :: r => shown r
def lefts : List Cnd → List (St × List Bool)
 | [] => []
 | .same s _ d _ :: r => forceS s fun s => (s, d) :: lefts r
 | _ :: r => lefts r
def rights : List Cnd → List (St × List Bool)
 | [] => []
 | .same _ s _ d :: r => frcS s fun s => (s, d) :: rights r
 | _ :: r => rights r
theorem CndsOK.mk : ∀ {cs : List Cnd}, Conds (shown cs) → lefts cs = rights cs → CndsOK cs
 | [], _, _ => trivial
 | .p h :: r, h1, h2 => ⟨h1.1, CndsOK.mk h1.2 h2⟩
 | .same s s' d d' :: r, h1, h2 => by
  simp only [lefts, rights, forceS_eq, frcS_eq, List.cons.injEq, Prod.mk.injEq] at h2
  exact ⟨h2.1, CndsOK.mk h1 h2.2⟩
inductive RR where
 | ok (s : St) (cs : List Cnd) (dec : List Bool) (fr : List Nat)
 | ask (b : Bool)
 | askI (i : Int)
 | bad (i : Nat)
def RR.of (i : Nat) : Res → RR
 | some (s, cs, dec, fr) => .ok s (cps cs) dec fr
 | none => .bad i
def asks (P : Program) (o : Oper) (s : St) : Option Bool :=
 match o.op with
 | .pick c _ _ => match s.ev c with
  | .d (.raw (.bool b)) => some b
  | _ => none
 | .lookup t m k _ => lookAsk P t (s.ev m) (s.ev k) s
 | _ => none
def stepRR (P : Program) (orc : Orc) (i : Nat) (o : Oper) (s : St) (dec : List Bool) : RR :=
 match dec with
 | [] => match asks P o s with
  | some b => .ask b
  | none => match idxOf P orc o s with
   | some j => .askI j
   | none => .of i (step P orc o s dec)
 | _ => .of i (step P orc o s dec)
def RR.add (c : Prop) : RR → RR
 | .ok s cs dec fr => .ok s (.p c :: cs) dec fr
 | r => r
def opStep (P : Program) (orc : Orc) (ops : Array Oper) (i : Nat) (s : St) (dec : List Bool) : RR :=
 match ops[i]? with
 | none => .bad i
 | some o =>
  match o.guard with
  | none => stepRR P orc i o s dec
  | some (j, want) =>
   match (ops[j]?).bind (·.dst) with
   | some t =>
    match s.tmps.getD t .dead with
    | .known b => if b == want then stepRR P orc i o s dec else .ok (s.put o.dst (.tup [])) [] dec []
    | .tup [] => .ok (s.put o.dst (.tup [])) [] dec []
    | .d (.raw (.bool b)) =>
     match dec with
     | δ :: dec =>
      if δ == want then (stepRR P orc i o { s with tmps := s.tmps.set t (.known δ) } dec).add (b = δ)
      else .ok (({ s with tmps := s.tmps.set t (.known δ) } : St).put o.dst (.tup [])) [.p (b = δ)] dec []
     | [] => .ask b
    | _ => .bad i
   | none => .bad i
def opsRun (P : Program) (orc : Orc) (ops : Array Oper) : List Nat → St → List Bool → RR
 | [], s, dec => .ok s [] dec []
 | i :: is, s, dec =>
  match opStep P orc ops i s dec with
  | .ask b => .ask b
  | .askI b => .askI b
  | .bad i => .bad i
  | .ok s1 cs dec1 fr1 =>
   match opsRun P orc ops is s1 dec1 with
   | .ask b => .ask b
   | .askI b => .askI b
   | .bad i => .bad i
   | .ok s2 cs2 dec2 fr2 => .ok s2 (cs ++ cs2) dec2 (fr1 ++ fr2)
theorem stepRR_some {orc : Orc} {i : Nat} {o : Oper} {dec dec' : List Bool} {cs : List Cnd} {fr : List Nat} (h : stepRR P orc i o s dec = .ok s' cs dec' fr) : ∃ c, cs = cps c ∧ step P orc o s dec = some (s', c, dec', fr) := by
 have of : RR.of i (step P orc o s dec) = .ok s' cs dec' fr → ∃ c, cs = cps c ∧ step P orc o s dec = some (s', c, dec', fr) := fun h => by
  unfold RR.of at h
  split at h
  · rename_i hs; cases h; exact ⟨_, rfl, hs⟩
  · cases h
 unfold stepRR at h
 split at h
 ·
  split at h
  · cases h
  ·
   split at h
   · cases h
   · exact of h
 · exact of h
theorem stepRR_ok {orc : Orc} {i : Nat} {o : Oper} {dec dec' : List Bool} {cs : List Cnd} {fr : List Nat} (h : stepRR P orc i o s dec = .ok s' cs dec' fr) (hcs : CndsOK cs) : ∃ d1 c1, step P orc o s d1 = some (s', c1, dec', fr) ∧ Conds c1 := by
 obtain ⟨c, rfl, h1⟩ := stepRR_some h
 exact ⟨dec, c, h1, cps_ok hcs⟩
theorem getD_tmp {t : Nat} {x : AV} (hsim : Sim C E s a w) (h : s.tmps.getD t .dead = x) (hx : x ≠ .dead) : ∃ v, a.tmps[t]? = some v ∧ VA E w (Stable C E s w) x v ∧ t < s.tmps.length := by
 rw [List.getD_eq_getElem?_getD] at h
 cases ht : s.tmps[t]? with
 | none => rw [ht] at h; exact absurd h.symm hx
 | some y =>
  rw [ht] at h
  simp only [Option.getD_some] at h
  subst h
  obtain ⟨v, h1, h2⟩ := hsim.tm.get t y ht
  rw [Array.getElem?_toList] at h1
  exact ⟨v, h1, h2, (List.getElem?_eq_some_iff.1 ht).1⟩
theorem Sim.retell (h : Sim C E s a w) {t : Nat} {v : Value} (hv : a.tmps[t]? = some v) {x : AV} (hx : VA E w (Stable C E s w) x v) : Sim C E { s with tmps := s.tmps.set t x } a w := by
 refine ⟨h.fit.tmps _, ?_, h.df⟩
 have e : a.tmps.toList = a.tmps.toList.set t v := by
  apply List.ext_getElem?
  intro k
  rw [List.getElem?_set]
  split
  ·
   rename_i e; subst e
   have hlt := (Array.getElem?_eq_some_iff.1 hv).1
   rw [if_pos (by simpa using hlt), Array.getElem?_toList]; exact hv
  · rfl
 show VAs E w (Stable C E s w) (s.tmps.set t x) _
 rw [e]
 exact h.tm.set t hx
theorem skip_yield {ops : Array Oper} {j t : Nat} {v : Value} {N : Nat → Prop} (hj : (ops[j]?).bind (·.dst) = some t) (h1 : a.tmps[t]? = some v) (h2 : VA E w N (.tup []) v) : yielded ops a.tmps j = none := by
 unfold VA at h2
 obtain ⟨vs, h3, h4⟩ := h2
 unfold VAs at h4
 subst h4
 subst h3
 unfold yielded
 rw [hj]
 simp [h1]
theorem undef_VA {N : Nat → Prop} : VA E w N (.tup []) undef := by
 unfold VA
 exact ⟨[], rfl, by unfold VAs; rfl⟩
theorem opStep_cases {orc : Orc} {ops : Array Oper} {i : Nat} {dec dec' : List Bool} {cs : List Cnd} {fr : List Nat} (h : opStep P orc ops i s dec = .ok s' cs dec' fr) (hcs : CndsOK cs) (hsim : Sim C E s a w) :
  ∃ o, ops[i]? = some o ∧ ∃ s1, Sim C E s1 a w ∧ s1.heap = s.heap ∧ True ∧
   ((Region.wanted o (yielded ops a.tmps) = true ∧ ∃ d1 c1, step P orc o s1 d1 = some (s', c1, dec', fr) ∧ Conds c1) ∨ (Region.wanted o (yielded ops a.tmps) = false ∧ s' = s1.put o.dst (.tup []) ∧ fr = [])) := by
 unfold opStep at h
 split at h
 · cases h
 ·
  rename_i o ho
  refine ⟨o, ho, ?_⟩
  split at h
  ·
   rename_i hg
   have hw : Region.wanted o (yielded ops a.tmps) = true := by unfold Region.wanted; rw [hg]
   exact ⟨s, hsim, rfl, trivial, .inl ⟨hw, stepRR_ok h hcs⟩⟩
  ·
   rename_i j want hg
   split at h
   ·
    rename_i t hj
    split at h
    ·
     rename_i b ht
     obtain ⟨v, h1, h2, h3⟩ := getD_tmp hsim ht (by simp)
     unfold VA at h2
     subst h2
     have hy : yielded ops a.tmps j = some b := by unfold yielded; rw [hj]; simp [h1]
     refine ⟨s, hsim, rfl, trivial, ?_⟩
     split at h
     ·
      rename_i hδ
      have hw : Region.wanted o (yielded ops a.tmps) = true := by
       unfold Region.wanted; rw [hg]; simp only [hy]
       simpa using hδ
      exact .inl ⟨hw, stepRR_ok h hcs⟩
     ·
      rename_i hδ
      cases h
      have hw : Region.wanted o (yielded ops a.tmps) = false := by
       unfold Region.wanted; rw [hg]; simp only [hy]
       simpa using hδ
      exact .inr ⟨hw, rfl, rfl⟩
    ·
     rename_i ht
     obtain ⟨v, h1, h2, h3⟩ := getD_tmp hsim ht (by simp)
     cases h
     have hw : Region.wanted o (yielded ops a.tmps) = false := by
      have hy := skip_yield hj h1 h2
      unfold Region.wanted; rw [hg]; simp only [hy]; rfl
     exact ⟨s, hsim, rfl, trivial, .inr ⟨hw, rfl, rfl⟩⟩
    ·
     rename_i b ht
     obtain ⟨v, h1, h2, h3⟩ := getD_tmp hsim ht (by simp)
     unfold VA at h2
     have hv := (VD_raw_inv h2).1
     subst hv
     have hy : yielded ops a.tmps j = some b := by unfold yielded; rw [hj]; simp [h1]
     have hsim2 : ∀ (δ : Bool), b = δ → Sim C E { s with tmps := s.tmps.set t (.known δ) } a w := fun δ e => by
      subst e
      exact hsim.retell h1 (by unfold VA; rfl)
     split at h
     ·
      rename_i δ dec2
      split at h
      ·
       rename_i hδ
       unfold RR.add at h
       split at h
       ·
        rename_i s2 c2 d2 f2 h4
        cases h
        obtain ⟨hb, hc2⟩ : b = δ ∧ CndsOK c2 := hcs
        have hw : Region.wanted o (yielded ops a.tmps) = true := by
         unfold Region.wanted; rw [hg]; simp only [hy]
         subst hb
         simpa using hδ
        exact ⟨_, hsim2 δ hb, rfl, trivial, .inl ⟨hw, stepRR_ok h4 hc2⟩⟩
       ·
        rename_i hno
        exact absurd h (hno _ _ _ _)
      ·
       rename_i hδ
       cases h
       have hb : b = δ := hcs.1
       have hw : Region.wanted o (yielded ops a.tmps) = false := by
        unfold Region.wanted; rw [hg]; simp only [hy]
        subst hb
        simpa using hδ
       exact ⟨_, hsim2 δ hb, rfl, trivial, .inr ⟨hw, rfl, rfl⟩⟩
     · cases h
    · cases h
   · cases h
theorem opStep_wp {orc : Orc} (horc : OrcOK P orc) {ops : Array Oper} {i : Nat} {dec dec' : List Bool} {cs : List Cnd} {fr : List Nat} (h : opStep P orc ops i s dec = .ok s' cs dec' fr) (hcs : CndsOK cs)
  {Q : Exit → Act → World → Prop} {K : Act → World → Prop} (hP : C.P = P) (hG : C.gl = orc.gl) (hsim : Sim C E s a w) (hn : ∀ E' a' w', Sim C E' s' a' w' → Kp fr C E s w E' s' w' → K a' w') : wpOp P ops Q i K a w := by
 obtain ⟨o, ho, s1, hs1, hheap, _, hor⟩ := opStep_cases h hcs hsim
 unfold wpOp
 simp only [ho]
 rcases hor with ⟨hw, d1, c1, h1, hc1⟩ | ⟨hw, rfl, rfl⟩
 ·
  rw [if_pos hw]
  exact .inl ((step_ok horc h1 hc1).out _ _ hP hG hs1 fun E' a' w' hs' hb => hn E' a' w' hs' (Kp.of_heap hheap hb))
 ·
  rw [if_neg (by rw [hw]; simp)]
  exact hn _ _ _ (hs1.put' o.dst undef_VA) (Kp.refl [] (by rw [← hheap]; cases o.dst <;> rfl))
theorem opsRun_ok {orc : Orc} (horc : OrcOK P orc) {ops : Array Oper} {Q : Exit → Act → World → Prop} (hP : C.P = P) (hG : C.gl = orc.gl) : ∀ (l : List Nat) {s s' : St} {E : Env} {a : Act} {w : World} {dec dec' : List Bool} {cs : List Cnd} {fr : List Nat}, opsRun P orc ops l s dec = .ok s' cs dec' fr → CndsOK cs →
  Sim C E s a w → (∀ E' a' w', Sim C E' s' a' w' → Q .normal a' w') → wpOps P ops Q l a w
 | [], s, s', E, a, w, dec, dec', cs, fr, h, hcs, hsim, hn => by
  simp only [opsRun, RR.ok.injEq] at h
  obtain ⟨rfl, _, _, _⟩ := h
  exact hn _ _ _ hsim
 | i :: is, s, s', E, a, w, dec, dec', cs, fr, h, hcs, hsim, hn => by
  simp only [opsRun] at h
  split at h
  · cases h
  · cases h
  · cases h
  ·
   rename_i s1 c1 d1 f1 h1
   split at h
   · cases h
   · cases h
   · cases h
   ·
    rename_i s2 c2 d2 f2 h2
    simp only [RR.ok.injEq] at h
    obtain ⟨rfl, rfl, rfl, rfl⟩ := h
    obtain ⟨hc1, hc2⟩ := CndsOK.append hcs
    rw [wpOps_cons]
    exact opStep_wp horc h1 hc1 hP hG hsim fun E' a' w' hs' _ => opsRun_ok horc hP hG is h2 hc2 hs' hn
def RR.adds (cs : List Cnd) : RR → RR
 | .ok s c dec fr => .ok s (cs ++ c) dec fr
 | r => r
def lightAt (P : Program) (orc : Orc) (ops : Array Oper) (i : Nat) (s : St) (dec : List Bool) : Option (List Nat) :=
 match ops[i]? with
 | none => none
 | some o =>
  match o.guard with
  | none => lightKind P orc o s
  | some (j, want) =>
   match (ops[j]?).bind (·.dst) with
   | some t =>
    match s.tmps.getD t .dead with
    | .known b => if b == want then lightKind P orc o s else some []
    | .tup [] => some []
    | .d (.raw (.bool _)) =>
     match dec with
     | δ :: _ => if δ == want then lightKind P orc o { s with tmps := s.tmps.set t (.known δ) } else some []
     | [] => lightKind P orc o s
    | _ => none
   | none => none
theorem opStep_light {orc : Orc} {ops : Array Oper} {i : Nat} {dec dec' : List Bool} {cs : List Cnd} {ld fr : List Nat} {oi : Oper} (h : opStep P orc ops i s dec = .ok s' cs dec' fr) (hcs : CndsOK cs) (ho : ops[i]? = some oi) (hl : lightAt P orc ops i s dec = some ld)
  {S : World → Prop} (hS : ∀ w', S w' → KeptW (inL ld) C E s w w') (hP : C.P = P) (hG : C.gl = orc.gl) (hsim : Sim C E s a w) : ∃ v, YieldsIf P ops S oi v a ∧ Sim C E s' (a.put oi.dst v) w ∧ s'.heap = s.heap := by
 have light : ∀ (s1 : St) (d1 : List Bool) (c1 : List Cnd) (d2 : List Bool), s1.heap = s.heap → Sim C E s1 a w → stepRR P orc i oi s1 d1 = .ok s' c1 d2 fr → CndsOK c1 → lightKind P orc oi s1 = some ld → Region.wanted oi (yielded ops a.tmps) = true → ∃ v, YieldsIf P ops S oi v a ∧ Sim C E s' (a.put oi.dst v) w ∧ s'.heap = s.heap := fun s1 d1 c1 d2 hh hs1 h0 hc0 hl1 hw => by
  obtain ⟨d1, c1, h1, hc1⟩ := stepRR_ok h0 hc0
  obtain ⟨y, rfl, hlight, _⟩ := step_light h1 hc1 hl1
  obtain ⟨v, h2, h3⟩ := hlight.out hP hG hs1
  exact ⟨v, .inl ⟨hw, fun w' hw' => h2 w' (fun b hb => hS w' hw' b (KB.of_heap hh hb))⟩, hs1.put' oi.dst h3, by rw [← hh]; cases oi.dst <;> rfl⟩
 unfold opStep at h
 unfold lightAt at hl
 rw [ho] at h hl
 simp only at h hl
 split at h
 ·
  rename_i hg
  rw [hg] at hl
  exact light s dec cs dec' rfl hsim h hcs hl (by unfold Region.wanted; rw [hg])
 ·
  rename_i j want hg
  rw [hg] at hl
  simp only at hl
  split at h
  ·
   rename_i t hj
   rw [hj] at hl
   simp only at hl
   split at h
   ·
    rename_i b ht
    rw [ht] at hl
    simp only at hl
    obtain ⟨v, h1, h2, h3⟩ := getD_tmp hsim ht (by simp)
    unfold VA at h2
    subst h2
    have hy : yielded ops a.tmps j = some b := by unfold yielded; rw [hj]; simp [h1]
    split at h
    ·
     rename_i hδ
     rw [if_pos hδ] at hl
     exact light s dec cs dec' rfl hsim h hcs hl (by unfold Region.wanted; rw [hg]; simp only [hy]; simpa using hδ)
    ·
     rename_i hδ
     cases h
     exact ⟨undef, .inr ⟨by unfold Region.wanted; rw [hg]; simp only [hy]; simpa using hδ, rfl⟩, hsim.put' oi.dst undef_VA, by cases oi.dst <;> rfl⟩
   ·
    rename_i ht
    obtain ⟨v, h1, h2, h3⟩ := getD_tmp hsim ht (by simp)
    cases h
    have hy := skip_yield hj h1 h2
    exact ⟨undef, .inr ⟨by unfold Region.wanted; rw [hg]; simp only [hy]; rfl, rfl⟩, hsim.put' oi.dst undef_VA, by cases oi.dst <;> rfl⟩
   ·
    rename_i b ht
    rw [ht] at hl
    simp only at hl
    obtain ⟨v, h1, h2, h3⟩ := getD_tmp hsim ht (by simp)
    unfold VA at h2
    have hv := (VD_raw_inv h2).1
    subst hv
    have hy : yielded ops a.tmps j = some b := by unfold yielded; rw [hj]; simp [h1]
    have hsim2 : ∀ (δ : Bool), b = δ → Sim C E { s with tmps := s.tmps.set t (.known δ) } a w := fun δ e => by
     subst e
     exact hsim.retell h1 (by unfold VA; rfl)
    split at h
    ·
     rename_i δ dec2
     simp only at hl
     split at h
     ·
      rename_i hδ
      rw [if_pos hδ] at hl
      unfold RR.add at h
      split at h
      ·
       rename_i s2 c2 d2 f2 h4
       cases h
       obtain ⟨hb, hc2⟩ : b = δ ∧ CndsOK c2 := hcs
       exact light { s with tmps := s.tmps.set t (.known δ) } dec2 c2 dec' rfl (hsim2 δ hb) h4 hc2 hl (by unfold Region.wanted; rw [hg]; simp only [hy]; subst hb; simpa using hδ)
      ·
       rename_i hno
       exact absurd h (hno _ _ _ _)
     ·
      rename_i hδ
      cases h
      have hb : b = δ := hcs.1
      exact ⟨undef, .inr ⟨by unfold Region.wanted; rw [hg]; simp only [hy]; subst hb; simpa using hδ, rfl⟩, (hsim2 δ hb).put' oi.dst undef_VA, by cases oi.dst <;> rfl⟩
    · cases h
   · cases h
  · cases h
def mayFirst (P : Program) (orc : Orc) (ops : Array Oper) (listed : Array Bool) (G : List Nat) (s : St) (dec : List Bool) (i : Nat) : Bool :=
 match lightAt P orc ops i s dec with
 | some ld => ld.all (inL G) && Region.free .any ops listed i
 | none => false
def RR.merge : List RR → RR
 | [] => .bad 2001
 | r :: rs =>
  match rs with
  | [] => r
  | _ =>
   match r, RR.merge rs with
   | .ok s c d f, .ok s' c' d' f' => .ok s (c ++ (c' ++ [.same s' s d' d])) d (f ++ f')
   | .ask b, _ => .ask b
   | .askI b, _ => .askI b
   | .bad i, _ => .bad i
   | .ok .., .ask b => .ask b
   | .ok .., .askI b => .askI b
   | .ok .., .bad i => .bad i
theorem RR.merge_ok : ∀ {rs : List RR} {s : St} {c : List Cnd} {d : List Bool} {f : List Nat}, RR.merge rs = .ok s c d f → CndsOK c → ∀ r, r ∈ rs → ∃ c' f', r = .ok s c' d f' ∧ CndsOK c'
 | [], s, c, d, f, h, hc, r, hr => by cases hr
 | [r0], s, c, d, f, h, hc, r, hr => by
  simp only [List.mem_singleton] at hr
  subst hr
  exact ⟨c, f, h, hc⟩
 | r0 :: r1 :: rs, s, c, d, f, h, hc, r, hr => by
  unfold RR.merge at h
  simp only at h
  split at h
  ·
   rename_i s0 c0 d0 f0 s' c' d' f' h'
   cases h
   obtain ⟨h1, h2⟩ := CndsOK.append hc
   obtain ⟨h2', h3⟩ := CndsOK.append h2
   obtain ⟨h3, h4⟩ : s' = _ ∧ d' = _ := h3.1
   subst h3; subst h4
   rcases List.mem_cons.1 hr with rfl | hr
   · exact ⟨_, _, rfl, h1⟩
   · exact RR.merge_ok h' h2' r hr
  all_goals cases h
def clash (G wr : List Nat) : Option Nat := wr.find? (inL G)
def anyRun (P : Program) (orc : Orc) (ops : Array Oper) : Nat → Array Bool → List Nat → St → List Bool → RR
 | 0, listed, _, s, dec => match Region.ready .any ops listed with
  | [] => .ok s [] dec []
  | _ => .bad 2000
 | n + 1, listed, G, s, dec =>
  match (Region.ready .any ops listed).find? (mayFirst P orc ops listed G s dec) with
  | some i =>
   match opStep P orc ops i s dec with
   | .ok s1 cs dec1 _ => (forceS s1 fun s1 => anyRun P orc ops n (listed.setIfInBounds i true) G s1 dec1).adds cs
   | r => r
  | none =>
   match Region.ready .any ops listed with
   | [] => .ok s [] dec []
   | rs => RR.merge (rs.map fun i =>
    match opStep P orc ops i s dec with
    | .ok s1 cs dec1 wr => match clash G wr with
     | none => (forceS s1 fun s1 => anyRun P orc ops n (listed.setIfInBounds i true) G s1 dec1).adds cs
     | some k => .bad (3000 + k)
    | r => r)
theorem wpAnyH_mono {md : Region.Mode} {ops : Array Oper} {Q : Exit → Act → World → Prop} {S S' : World → Prop} (hS : ∀ w, S' w → S w) : ∀ (n : Nat) (listed : Array Bool) (a : Act) (w : World), wpAnyH P md ops Q S' n listed a w → wpAnyH P md ops Q S n listed a w
 | 0, _, _, _, h => h
 | n + 1, _, _, _, h => ⟨h.1, fun i hi => wpOp_mono (fun a' w' h' => ⟨hS _ h'.1, wpAnyH_mono hS n _ a' w' h'.2⟩) (h.2 i hi)⟩
theorem anyRun_ok {orc : Orc} (horc : OrcOK P orc) {ops : Array Oper} (hsel : Region.noSelect ops = true) {Q : Exit → Act → World → Prop} (hQ : ∀ c a w, ¬ Q (.panic c) a w) (hP : C.P = P) (hG : C.gl = orc.gl) (G : List Nat) : ∀ (n : Nat) (listed : Array Bool) {s s' : St} {E : Env} {a : Act} {w : World} {dec dec' : List Bool} {cs : List Cnd} {fr : List Nat},
  anyRun P orc ops n listed G s dec = .ok s' cs dec' fr → CndsOK cs → Sim C E s a w →
  (∀ E' a' w', Sim C E' s' a' w' → Q .normal a' w') → wpAnyH P .any ops Q (KeptW (inL G) C E s w) n listed a w
 | 0, listed, s, s', E, a, w, dec, dec', cs, fr, h, hcs, hsim, hn => by
  simp only [anyRun, forceS_eq] at h
  split at h
  ·
   rename_i hr
   cases h
   exact ⟨hr, hn _ _ _ hsim⟩
  · cases h
 | n + 1, listed, s, s', E, a, w, dec, dec', cs, fr, h, hcs, hsim, hn => by
  simp only [anyRun, forceS_eq] at h
  split at h
  ·
   rename_i i hf
   have hmem := List.mem_of_find?_eq_some hf
   have hmay := List.find?_some hf
   unfold mayFirst at hmay
   split at hmay
   ·
    rename_i ld hl
    simp only [Bool.and_eq_true] at hmay
    obtain ⟨oi, hoi⟩ : ∃ oi, ops[i]? = some oi := by
     unfold lightAt at hl
     cases ho : ops[i]? with
     | none => rw [ho] at hl; cases hl
     | some oi => exact ⟨oi, rfl⟩
    split at h
    ·
     rename_i s1 c1 d1 f1 h1
     unfold RR.adds at h
     split at h
     ·
      rename_i s2 c2 d2 f2 h2
      cases h
      obtain ⟨hc1, hc2⟩ := CndsOK.append hcs
      obtain ⟨v, hy, hs1, hh⟩ := opStep_light h1 hc1 hoi hl (S := KeptW (inL G) C E s w) (fun w' hw' b hb => hw' b (hb.mono fun k hk => by
       unfold inL at hk
       obtain ⟨j, hj, hjk⟩ := List.any_eq_true.1 hk
       have e : j = k := by simpa using hjk
       subst e
       exact List.all_eq_true.1 hmay.1 j hj)) hP hG hsim
      exact wpAnyH_take hoi hsel hmay.2 (by simpa using hmem) (fun c a w hq => absurd hq (hQ c _ w)) hy (KeptW.refl _)
       (wpAnyH_mono (S' := KeptW (inL G) C E s1 w) (fun u hu b hb => hu b (KB.of_heap hh.symm hb)) _ _ _ _ (anyRun_ok horc hsel hQ hP hG G n _ h2 hc2 hs1 hn))
     · rename_i hno; exact absurd h (hno _ _ _ _)
    · rename_i hno; exact absurd h (hno _ _ _ _)
   · cases hmay
  ·
   split at h
   ·
    rename_i hr
    cases h
    exact wpAnyH_done hr (hn _ _ _ hsim) _
   ·
    rename_i hne
    refine wpAnyH_all rfl (fun h0 => hne h0) fun j hj => ?_
    obtain ⟨c', f', hr', hc'⟩ := RR.merge_ok h hcs _ (List.mem_map.2 ⟨j, hj, rfl⟩)
    split at hr'
    ·
     rename_i s1 c1 d1 f1 h1
     split at hr'
     ·
      rename_i hcl
      unfold RR.adds at hr'
      split at hr'
      ·
       rename_i s2 c2 d2 f2 h2
       cases hr'
       obtain ⟨hc1, hc2⟩ := CndsOK.append hc'
       refine opStep_wp horc h1 hc1 hP hG hsim fun E' a' w' hs' hkp => ?_
       have hd : ∀ k, inL f1 k = true → inL G k = false := fun k hk => by
        obtain ⟨j, hj, hjk⟩ := List.any_eq_true.1 hk
        have e : j = k := by simpa using hjk
        subst e
        have := List.find?_eq_none.1 hcl j hj
        simpa using this
       have hk := hkp (inL G) hd
       exact ⟨fun b hb => (hk b hb).2, wpAnyH_mono (S' := KeptW (inL G) C E' s1 w') (fun u hu b hb => (hu b (hk b hb).1).trans (hk b hb).2) _ _ _ _ (anyRun_ok horc hsel hQ hP hG G n _ h2 hc2 hs' hn)⟩
      · rename_i hno; exact absurd hr' (hno _ _ _ _)
     · cases hr'
    · rename_i hno; exact absurd hr' (hno _ _ _ _)
end Go.Eng
