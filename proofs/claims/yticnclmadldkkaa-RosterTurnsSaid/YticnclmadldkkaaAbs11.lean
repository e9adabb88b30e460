/-
  Part of the engine: abstract states of a call (values as trees, objects and rows of the call's own), and that each operation of the model does to the world what it does to them. No condition.
-/
import Derived.Test.YticnclmadldkkaaAbs10
namespace Go.Abs
open Go Go.RowKit
variable {P : Program} {B : Nat} {w0 : World} {N0 : Nat → Prop} {E E' : Env} {s s' : St} {a : Act} {w w' : World}

/-! ### the operations of a region, in the order of the text -/
inductive RR where
  | ok (s : St) (cs : List Prop) (dec : List Bool)
  | ask (b : Bool)
  | bad (i : Nat)
def RR.of (i : Nat) : Res → RR
  | some (s, cs, dec) => .ok s cs dec
  | none => .bad i
/-- Does the operation want a decision that isn't there? -/
def asks (o : Oper) (s : St) : Option Bool :=
  match o.op with
  | .pick c _ _ => match s.ev c with
    | .d (.raw (.bool b)) => some b
    | _ => none
  | _ => none
def stepRR (P : Program) (orc : Orc) (i : Nat) (o : Oper) (s : St) (dec : List Bool) : RR :=
  match dec, asks o s with
  | [], some b => .ask b
  | _, _ => .of i (step P orc o s dec)
def RR.add (c : Prop) : RR → RR
  | .ok s cs dec => .ok s (c :: cs) dec
  | r => r
def opStep (P : Program) (orc : Orc) (ops : Array Oper) (i : Nat) (s : St) (dec : List Bool) : RR :=
  match ops[i]? with
  | none => .bad i
  | some o =>
    match o.guard with
    | none => stepRR P orc i o s dec
    | some (j, want) =>
      match (ops[j]?).bind (·.dst) with
      | some t =>
        match s.tmps.getD t .dead with
        | .known b => if b == want then stepRR P orc i o s dec else .ok (s.put o.dst .dead) [] dec
        | .d (.raw (.bool b)) =>
          match dec with
          | δ :: dec =>
            if δ == want then (stepRR P orc i o { s with tmps := s.tmps.set t (.known δ) } dec).add (b = δ)
            else .ok (({ s with tmps := s.tmps.set t (.known δ) } : St).put o.dst .dead) [b = δ] dec
          | [] => .ask b
        | _ => .bad i
      | none => .bad i
def opsRun (P : Program) (orc : Orc) (ops : Array Oper) : List Nat → St → List Bool → RR
  | [], s, dec => .ok s [] dec
  | i :: is, s, dec =>
    match opStep P orc ops i s dec with
    | .ask b => .ask b
    | .bad i => .bad i
    | .ok s1 cs dec1 =>
      match opsRun P orc ops is s1 dec1 with
      | .ask b => .ask b
      | .bad i => .bad i
      | .ok s2 cs2 dec2 => .ok s2 (cs ++ cs2) dec2
theorem stepRR_some {orc : Orc} {i : Nat} {o : Oper} {dec dec' : List Bool} {cs : List Prop} (h : stepRR P orc i o s dec = .ok s' cs dec') : step P orc o s dec = some (s', cs, dec') := by
  unfold stepRR at h
  split at h
  · cases h
  · unfold RR.of at h
    split at h
    · cases h; assumption
    · cases h

theorem getD_tmp {t : Nat} {x : AV} (hsim : Sim B w0 N0 E s a w) (h : s.tmps.getD t .dead = x) (hx : x ≠ .dead) : ∃ v, a.tmps[t]? = some v ∧ VA E w (Stable B N0 E s w) x v ∧ t < s.tmps.length := by
  rw [List.getD_eq_getElem?_getD] at h
  cases ht : s.tmps[t]? with
  | none => rw [ht] at h; exact absurd h.symm hx
  | some y =>
    rw [ht] at h
    simp only [Option.getD_some] at h
    subst h
    obtain ⟨v, h1, h2⟩ := hsim.tm.get t y ht
    rw [Array.getElem?_toList] at h1
    exact ⟨v, h1, h2, (List.getElem?_eq_some_iff.1 ht).1⟩

def freshAt (ops : Array Oper) (i : Nat) : Bool := ((ops[i]?).map freshOp).getD true
/-- The guard's word, the operation behind it. -/
theorem opStep_cases {orc : Orc} {ops : Array Oper} {i : Nat} {dec dec' : List Bool} {cs : List Prop} (h : opStep P orc ops i s dec = .ok s' cs dec') (hcs : Conds cs) (hsim : Sim B w0 N0 E s a w) :
    ∃ o, ops[i]? = some o ∧ ∃ s1, Sim B w0 N0 E s1 a w ∧
      ((Region.wanted o (yielded ops a.tmps) = true ∧ ∃ d1 c1, step P orc o s1 d1 = some (s', c1, dec') ∧ Conds c1) ∨ (Region.wanted o (yielded ops a.tmps) = false ∧ s' = s1.put o.dst .dead)) := by
  unfold opStep at h
  split at h
  · cases h
  · rename_i o ho
    refine ⟨o, ho, ?_⟩
    split at h
    · rename_i hg
      have hw : Region.wanted o (yielded ops a.tmps) = true := by unfold Region.wanted; rw [hg]
      exact ⟨s, hsim, .inl ⟨hw, _, _, stepRR_some h, hcs⟩⟩
    · rename_i j want hg
      split at h
      · rename_i t hj
        split at h
        · rename_i b ht
          obtain ⟨v, h1, h2, h3⟩ := getD_tmp hsim ht (by simp)
          unfold VA at h2
          subst h2
          have hy : yielded ops a.tmps j = some b := by unfold yielded; rw [hj]; simp [h1]
          refine ⟨s, hsim, ?_⟩
          split at h
          · rename_i hδ
            have hw : Region.wanted o (yielded ops a.tmps) = true := by
              unfold Region.wanted; rw [hg]; simp only [hy]
              simpa using hδ
            exact .inl ⟨hw, _, _, stepRR_some h, hcs⟩
          · rename_i hδ
            cases h
            have hw : Region.wanted o (yielded ops a.tmps) = false := by
              unfold Region.wanted; rw [hg]; simp only [hy]
              simpa using hδ
            exact .inr ⟨hw, rfl⟩
        · rename_i b ht
          obtain ⟨v, h1, h2, h3⟩ := getD_tmp hsim ht (by simp)
          unfold VA at h2
          have hv := (VD_raw_inv h2).1
          subst hv
          have hy : yielded ops a.tmps j = some b := by unfold yielded; rw [hj]; simp [h1]
          have hsim2 : ∀ (δ : Bool), b = δ → Sim B w0 N0 E { s with tmps := s.tmps.set t (.known δ) } a w := fun δ e => by
            subst e
            refine ⟨⟨hsim.fit.low, hsim.fit.below, hsim.fit.size, hsim.fit.obj, hsim.fit.row, hsim.fit.oo, hsim.fit.rr, hsim.fit.ro⟩, ?_, hsim.df⟩
            have e : a.tmps.toList = a.tmps.toList.set t (.bool b) := by
              apply List.ext_getElem?
              intro k
              rw [List.getElem?_set]
              split
              · rename_i e; subst e
                have hlt : t < a.tmps.toList.length := by rw [hsim.tm.length]; exact h3
                rw [if_pos hlt, Array.getElem?_toList]; exact h1
              · rfl
            show VAs E w (Stable B N0 E s w) (s.tmps.set t _) _
            rw [e]
            exact hsim.tm.set t (by unfold VA; rfl)
          split at h
          · rename_i δ dec2
            split at h
            · rename_i hδ
              unfold RR.add at h
              split at h
              · rename_i s2 c2 d2 h4
                cases h
                obtain ⟨hb, hc2⟩ : b = δ ∧ Conds c2 := hcs
                have hw : Region.wanted o (yielded ops a.tmps) = true := by
                  unfold Region.wanted; rw [hg]; simp only [hy]
                  subst hb
                  simpa using hδ
                exact ⟨_, hsim2 δ hb, .inl ⟨hw, _, _, stepRR_some h4, hc2⟩⟩
              · rename_i hno
                exact absurd h (hno _ _ _)
            · rename_i hδ
              cases h
              have hb : b = δ := hcs.1
              have hw : Region.wanted o (yielded ops a.tmps) = false := by
                unfold Region.wanted; rw [hg]; simp only [hy]
                subst hb
                simpa using hδ
              exact ⟨_, hsim2 δ hb, .inr ⟨hw, rfl⟩⟩
          · cases h
        · cases h
      · cases h
theorem opStep_wp {orc : Orc} (horc : OrcOK P orc) {ops : Array Oper} {i : Nat} {dec dec' : List Bool} {cs : List Prop} (h : opStep P orc ops i s dec = .ok s' cs dec') (hcs : Conds cs)
    {Q : Exit → Act → World → Prop} {K : Act → World → Prop} (hsim : Sim B w0 N0 E s a w) (hn : ∀ E' a' w', Sim B w0 N0 E' s' a' w' → (freshAt ops i = true → Below w.heap.size w w') → K a' w') : wpOp P ops Q i K a w := by
  obtain ⟨o, ho, s1, hs1, hor⟩ := opStep_cases h hcs hsim
  have hfr : freshAt ops i = freshOp o := by simp [freshAt, ho]
  unfold wpOp
  simp only [ho]
  rcases hor with ⟨hw, d1, c1, h1, hc1⟩ | ⟨hw, rfl⟩
  · rw [if_pos hw]
    exact .inl ((step_ok horc h1 hc1).out _ _ hs1 fun E' a' w' hs' hb => hn E' a' w' hs' (by rw [hfr]; exact hb))
  · rw [if_neg (by rw [hw]; simp)]
    exact hn _ _ _ (hs1.put' o.dst (by unfold VA; trivial)) fun _ => Below.refl _ _
/-- An operation that may be taken first. -/
theorem opStep_light {orc : Orc} {ops : Array Oper} {i : Nat} {dec dec' : List Bool} {cs : List Prop} {ld : Bool} {oi : Oper} (h : opStep P orc ops i s dec = .ok s' cs dec') (hcs : Conds cs) (ho : ops[i]? = some oi) (hl : lightKind oi = some ld)
    {S : World → Prop} (hS : ∀ w', S w' → ld = true → SameB w w') (hsim : Sim B w0 N0 E s a w) : ∃ v, YieldsIf P ops S oi v a ∧ Sim B w0 N0 E s' (a.put oi.dst v) w := by
  obtain ⟨o, ho', s1, hs1, hor⟩ := opStep_cases h hcs hsim
  rw [ho] at ho'; cases ho'
  rcases hor with ⟨hw, d1, c1, h1, hc1⟩ | ⟨hw, rfl⟩
  · obtain ⟨y, rfl, hlight⟩ := step_light h1 hc1 hl
    obtain ⟨v, h2, h3⟩ := hlight.out hs1
    exact ⟨v, .inl ⟨hw, fun w' hw' => h2 w' (hS w' hw')⟩, hs1.put' oi.dst h3⟩
  · exact ⟨undef, .inr ⟨hw, rfl⟩, hs1.put' oi.dst (by unfold VA; trivial)⟩
theorem opsRun_ok {orc : Orc} (horc : OrcOK P orc) {ops : Array Oper} {Q : Exit → Act → World → Prop} : ∀ (l : List Nat) {s s' : St} {E : Env} {a : Act} {w : World} {dec dec' : List Bool} {cs : List Prop}, opsRun P orc ops l s dec = .ok s' cs dec' → Conds cs →
    Sim B w0 N0 E s a w → (∀ E' a' w', Sim B w0 N0 E' s' a' w' → Q .normal a' w') → wpOps P ops Q l a w
  | [], s, s', E, a, w, dec, dec', cs, h, hcs, hsim, hn => by
    simp only [opsRun, RR.ok.injEq] at h
    obtain ⟨rfl, _, _⟩ := h
    exact hn _ _ _ hsim
  | i :: is, s, s', E, a, w, dec, dec', cs, h, hcs, hsim, hn => by
    simp only [opsRun] at h
    split at h
    · cases h
    · cases h
    · rename_i s1 c1 d1 h1
      split at h
      · cases h
      · cases h
      · rename_i s2 c2 d2 h2
        simp only [RR.ok.injEq] at h
        obtain ⟨rfl, rfl, rfl⟩ := h
        obtain ⟨hc1, hc2⟩ := Conds.append hcs
        rw [wpOps_cons]
        exact opStep_wp horc h1 hc1 hsim fun E' a' w' hs' _ => opsRun_ok horc is h2 hc2 hs' hn

/-! ### a region whose order is open -/
def RR.adds (cs : List Prop) : RR → RR
  | .ok s c dec => .ok s (cs ++ c) dec
  | r => r
def mayFirst (ops : Array Oper) (listed : Array Bool) (ph : Bool) (i : Nat) : Bool :=
  match ops[i]? with
  | some o => match lightKind o with
    | some ld => (!ld || ph) && Region.free .any ops listed i
    | none => false
  | none => false
/-- Two orders came to the same. -/
def Same (s s' : St) (d d' : List Bool) : Prop := s = s' ∧ d = d'
def RR.merge : List RR → RR
  | [] => .bad 2001
  | r :: rs =>
    match rs with
    | [] => r
    | _ =>
      match r, RR.merge rs with
      | .ok s c d, .ok s' c' d' => .ok s (c ++ (c' ++ [Same s' s d' d])) d
      | .ask b, _ => .ask b
      | .bad i, _ => .bad i
      | .ok .., .ask b => .ask b
      | .ok .., .bad i => .bad i
theorem RR.merge_ok : ∀ {rs : List RR} {s : St} {c : List Prop} {d : List Bool}, RR.merge rs = .ok s c d → Conds c → ∀ r, r ∈ rs → ∃ c', r = .ok s c' d ∧ Conds c'
  | [], s, c, d, h, hc, r, hr => by cases hr
  | [r0], s, c, d, h, hc, r, hr => by
    simp only [List.mem_singleton] at hr
    subst hr
    exact ⟨c, h, hc⟩
  | r0 :: r1 :: rs, s, c, d, h, hc, r, hr => by
    unfold RR.merge at h
    simp only at h
    split at h
    · rename_i s0 c0 d0 s' c' d' h'
      cases h
      obtain ⟨h1, h2⟩ := Conds.append hc
      obtain ⟨h2', h3⟩ := Conds.append h2
      obtain ⟨h3, h4⟩ : s' = _ ∧ d' = _ := h3.1
      subst h3; subst h4
      rcases List.mem_cons.1 hr with rfl | hr
      · exact ⟨_, rfl, h1⟩
      · exact RR.merge_ok h' h2' r hr
    · cases h
    · cases h
    · cases h
    · cases h
def anyRun (P : Program) (orc : Orc) (ops : Array Oper) : Nat → Array Bool → Bool → St → List Bool → RR
  | 0, listed, _, s, dec => match Region.ready .any ops listed with
    | [] => .ok s [] dec
    | _ => .bad 2000
  | n + 1, listed, ph, s, dec =>
    match (Region.ready .any ops listed).find? (mayFirst ops listed ph) with
    | some i =>
      match opStep P orc ops i s dec with
      | .ok s1 cs dec1 => (anyRun P orc ops n (listed.setIfInBounds i true) ph s1 dec1).adds cs
      | r => r
    | none =>
      match Region.ready .any ops listed with
      | [] => .ok s [] dec
      | rs => RR.merge (rs.map fun i =>
        match opStep P orc ops i s dec with
        | .ok s1 cs dec1 => (anyRun P orc ops n (listed.setIfInBounds i true) ph s1 dec1).adds cs
        | r => r)
theorem wpAnyH_mono {md : Region.Mode} {ops : Array Oper} {Q : Exit → Act → World → Prop} {S S' : World → Prop} (hS : ∀ w, S' w → S w) : ∀ (n : Nat) (listed : Array Bool) (a : Act) (w : World), wpAnyH P md ops Q S' n listed a w → wpAnyH P md ops Q S n listed a w
  | 0, _, _, _, h => h
  | n + 1, _, _, _, h => ⟨h.1, fun i hi => wpOp_mono (fun a' w' h' => ⟨hS _ h'.1, wpAnyH_mono hS n _ a' w' h'.2⟩) (h.2 i hi)⟩
/-- What stays in the whole region, where nothing old is written. -/
def Held (ops : Array Oper) (ws w : World) : Prop := ops.all freshOp = true → ∀ b, b < ws.heap.size → w.heap[b]? = ws.heap[b]?
theorem fresh_all {ops : Array Oper} (h : ops.all freshOp = true) (i : Nat) : freshAt ops i = true := by
  unfold freshAt
  cases hi : ops[i]? with
  | none => rfl
  | some o =>
    simp only [Option.map_some, Option.getD_some]
    rw [Array.all_eq_true] at h
    obtain ⟨hlt, rfl⟩ := Array.getElem?_eq_some_iff.1 hi
    exact h i hlt
theorem anyRun_ok {orc : Orc} (horc : OrcOK P orc) {ops : Array Oper} (hsel : Region.noSelect ops = true) {Q : Exit → Act → World → Prop} (hQ : ∀ c a w, ¬ Q (.panic c) a w) : ∀ (n : Nat) (listed : Array Bool) (ph : Bool) {s s' : St} {E : Env} {a : Act} {w ws : World} {dec dec' : List Bool} {cs : List Prop},
    anyRun P orc ops n listed ph s dec = .ok s' cs dec' → Conds cs → Sim B w0 N0 E s a w → Held ops ws w → (ops.all freshOp = true → w.heap.size = ws.heap.size) → (ph = true → ops.all freshOp = true) →
    (∀ E' a' w', Sim B w0 N0 E' s' a' w' → Q .normal a' w') → wpAnyH P .any ops Q (Held ops ws) n listed a w
  | 0, listed, ph, s, s', E, a, w, ws, dec, dec', cs, h, hcs, hsim, hS, hL, hph, hn => by
    simp only [anyRun] at h
    split at h
    · rename_i hr
      cases h
      exact ⟨hr, hn _ _ _ hsim⟩
    · cases h
  | n + 1, listed, ph, s, s', E, a, w, ws, dec, dec', cs, h, hcs, hsim, hS, hL, hph, hn => by
    simp only [anyRun] at h
    split at h
    · rename_i i hf
      have hmem := List.mem_of_find?_eq_some hf
      have hmay := List.find?_some hf
      unfold mayFirst at hmay
      split at hmay
      · rename_i oi hoi
        split at hmay
        · rename_i ld hl
          simp only [Bool.and_eq_true, Bool.or_eq_true, Bool.not_eq_true'] at hmay
          split at h
          · rename_i s1 c1 d1 h1
            unfold RR.adds at h
            split at h
            · rename_i s2 c2 d2 h2
              cases h
              obtain ⟨hc1, hc2⟩ := Conds.append hcs
              obtain ⟨v, hy, hs1⟩ := opStep_light h1 hc1 hoi hl (S := Held ops ws) (fun w' hw' hld => by
                have hp : ph = true := by
                  rcases hmay.1 with h | h
                  · rw [h] at hld; cases hld
                  · exact h
                have hall := hph hp
                have hsz := hL hall
                exact fun b hb => (hw' hall b (by omega)).trans (hS hall b (by omega)).symm) hsim
              exact wpAnyH_take hoi hsel hmay.2 (by simpa using hmem) (fun c a w hq => absurd hq (hQ c _ w)) hy hS
                (anyRun_ok horc hsel hQ n _ ph h2 hc2 hs1 hS hL hph hn)
            · rename_i hno; exact absurd h (hno _ _ _)
          · rename_i hno; exact absurd h (hno _ _ _)
        · cases hmay
      · cases hmay
    · split at h
      · rename_i hr
        cases h
        exact wpAnyH_done hr (hn _ _ _ hsim) _
      · rename_i hne
        refine wpAnyH_all rfl (fun h0 => hne h0) fun j hj => ?_
        obtain ⟨c', hr', hc'⟩ := RR.merge_ok h hcs _ (List.mem_map.2 ⟨j, hj, rfl⟩)
        split at hr'
        · rename_i s1 c1 d1 h1
          unfold RR.adds at hr'
          split at hr'
          · rename_i s2 c2 d2 h2
            cases hr'
            obtain ⟨hc1, hc2⟩ := Conds.append hc'
            refine opStep_wp horc h1 hc1 hsim fun E' a' w' hs' hb => ?_
            have hS' : Held ops ws w' := fun hall b hb' => ((hb (fresh_all hall _)).block b (by have := hL hall; omega)).trans (hS hall b hb')
            refine ⟨hS', wpAnyH_mono (S' := Held ops w') (fun u hu hall b hb' => (hu hall b ?_).trans (hS' hall b hb')) _ _ _ _ (anyRun_ok horc hsel hQ n _ ph h2 hc2 hs' (fun _ _ _ => rfl) (fun _ => rfl) hph hn)⟩
            have h3 := (hb (fresh_all hall _)).size
            have h4 := hL hall
            omega
          · rename_i hno; exact absurd hr' (hno _ _ _)
        · rename_i hno; exact absurd hr' (hno _ _ _)

/-! ### the run of a call, up to the next loop's head -/
/-- From here on the call comes to an ending that R takes. -/
def Goes (P : Program) (f : FuncId) (k : List Item) (R : Ending → World → Prop) (a : Act) (w : World) : Prop :=
  ∀ (b : Frame) (cs : List Frame), b.fn = f → b.kind = .normal → ∃ e w' fr, R e w' ∧ Comes P (lone (b.at a k) cs w) (lone fr cs w') e ∧ fr.fn = f ∧ fr.leaving P w' e
theorem Goes.step {f : FuncId} {k k' : List Item} {R : Ending → World → Prop} (hs : ∀ (b : Frame) (cs : List Frame), _root_.Go.step P (lone (b.at a k) cs w) = .next (lone (b.at a k') cs w)) (h : Goes P f k' R a w) : Goes P f k R a w := fun b cs hb hk =>
  let ⟨e, w', fr, h1, h2, h3⟩ := h b cs hb hk; ⟨e, w', fr, h1, Comes.of_steps (.one (hs b cs)) h2, h3⟩
theorem Goes.code {f : FuncId} {c : Code} {k : List Item} {R : Ending → World → Prop} (hc : c.wp P (fun e a' w' => match e with | .normal => Goes P f k R a' w' | _ => False) a w) : Goes P f (.code c :: k) R a w := fun b cs hb hk => by
  obtain ⟨e, a', w', hq, harr⟩ := hc b k cs
  cases e with
  | normal =>
    obtain ⟨e2, w2, fr, h1, h2, h3⟩ := hq b cs hb hk
    exact ⟨e2, w2, fr, h1, Comes.of_steps harr h2, h3⟩
  | _ => exact hq.elim
theorem Goes.ret {f : FuncId} {k : List Item} {R : Ending → World → Prop} {fn : Func} (hf : P.funcs[f]? = some fn) (hd : a.defers = []) {v : Value} (hr : (results fn a.tmps).run P w = .ok v w) (hR : R (.returned v) w) :
    Goes P f (.code .ret :: k) R a w ∧ Goes P f [] R a w := by
  refine ⟨fun b cs hb hk => ?_, fun b cs hb hk => ?_⟩
  · exact ⟨.returned v, w, _, hR, .one step_ret, hb, rfl, hd, hk, fn, by show P.funcs[b.fn]? = _; rw [hb]; exact hf, hr⟩
  · exact ⟨.returned v, w, _, hR, .one step_end, hb, rfl, hd, hk, fn, by show P.funcs[b.fn]? = _; rw [hb]; exact hf, hr⟩

inductive Out where
  | head (k : List Item) (s : St)
  | ret (s : St)
  | ask (b : Bool)
  | bad (k : List Item) (i : Nat)
def runAdd (cs : List Prop) (r : Out × List Prop) : Out × List Prop := (r.1, cs ++ r.2)
def run (P : Program) (orc : Orc) : Nat → List Item → St → List Bool → Out × List Prop
  | 0, k, _, _ => (.bad k 1000, [])
  | _ + 1, [], s, _ => (.ret s, [])
  | n + 1, .code .skip :: k, s, dec => run P orc n k s dec
  | n + 1, .inBlock _ :: k, s, dec => run P orc n k s dec
  | n + 1, .code (.seq x y) :: k, s, dec => run P orc n (.code x :: .code y :: k) s dec
  | n + 1, .code (.cond c x y) :: k, s, dec =>
    match s.ev c with
    | .known b => run P orc n (.code (if b then x else y) :: k) s dec
    | .d (.raw (.bool b)) =>
      match dec with
      | δ :: dec => runAdd [b = δ] (run P orc n (.code (if δ then x else y) :: k) s dec)
      | [] => (.ask b, [])
    | _ => (.bad (.code (.cond c x y) :: k) 1001, [])
  | n + 1, .code (.block id x) :: k, s, dec => run P orc n (.code x :: .inBlock id :: k) s dec
  | n + 1, .code (.loop x) :: k, s, dec =>
    match dec with
    | true :: dec => run P orc n (.code x :: .inLoop x :: k) s dec
    | _ => (.head (.code x :: .inLoop x :: k) s, [])
  | n + 1, .inLoop x :: k, s, dec =>
    match dec with
    | true :: dec => run P orc n (.code x :: .inLoop x :: k) s dec
    | _ => (.head (.code x :: .inLoop x :: k) s, [])
  | n + 1, .code (.exit id) :: k, s, dec =>
    match exitTo id k with
    | some k' => run P orc n k' s dec
    | none => (.bad (.code (.exit id) :: k) 1002, [])
  | _ + 1, .code .ret :: _, s, _ => (.ret s, [])
  | n + 1, .code (.region id ops false) :: k, s, dec =>
    match opsRun P orc ops (List.range ops.size) s dec with
    | .ask b => (.ask b, [])
    | .bad i => (.bad (.code (.region id ops false) :: k) i, [])
    | .ok s1 cs dec1 => runAdd cs (run P orc n k s1 dec1)
  | n + 1, .code (.region id ops true) :: k, s, dec =>
    if P.follows .mixedOrders && Region.noSelect ops then
      match anyRun P orc ops ops.size (Array.replicate ops.size false) (ops.all freshOp) s dec with
      | .ask b => (.ask b, [])
      | .bad i => (.bad (.code (.region id ops true) :: k) i, [])
      | .ok s1 cs dec1 => runAdd cs (run P orc n k s1 dec1)
    else (.bad (.code (.region id ops true) :: k) 1004, [])
  | _ + 1, k, _, _ => (.bad k 1003, [])

/-- What is to be shown where the run stops. -/
def OutOK (P : Program) (f : FuncId) (R : Ending → World → Prop) (B : Nat) (w0 : World) (N0 : Nat → Prop) : Out → Prop
  | .head k s => ∀ E a w, Sim B w0 N0 E s a w → Goes P f k R a w
  | .ret s => ∀ E a w, Sim B w0 N0 E s a w → ∃ fn v, P.funcs[f]? = some fn ∧ (results fn a.tmps).run P w = .ok v w ∧ R (.returned v) w
  | _ => False

theorem run_ok' {orc : Orc} (horc : OrcOK P orc) {f : FuncId} {R : Ending → World → Prop} : ∀ (n : Nat) (k : List Item) (s : St) (dec : List Bool) (r : Out × List Prop), run P orc n k s dec = r → Conds r.2 → OutOK P f R B w0 N0 r.1 →
    ∀ {E : Env} {a : Act} {w : World}, Sim B w0 N0 E s a w → Goes P f k R a w := by
  intro n
  induction n with
  | zero => intro k s dec r h hcs hout; simp only [run] at h; subst h; exact hout.elim
  | succ n ih =>
    intro k s dec r h hcs hout E a w hsim
    unfold run at h
    split at h
    · rename_i heq; cases heq
    · subst h
      obtain ⟨fn, v, h1, h2, h3⟩ := hout E a w hsim
      exact (Goes.ret (k := []) h1 hsim.df h2 h3).2
    · rename_i heq
      cases heq
      exact .step (fun b cs => step_skip) (ih _ _ _ _ h hcs hout hsim)
    · rename_i heq
      cases heq
      exact .step (fun b cs => step_inBlock) (ih _ _ _ _ h hcs hout hsim)
    · rename_i heq
      cases heq
      exact .step (fun b cs => step_seq) (ih _ _ _ _ h hcs hout hsim)
    · rename_i heq
      cases heq
      split at h
      · rename_i bb hc
        have hv : ∀ x, St.ev _ x = .known bb → a.eval x = .bool bb := fun x hx => by
          have h := hsim.ev x
          rw [hx] at h
          unfold VA at h
          exact h
        have hv := hv _ hc
        exact .step (fun b cs => step_cond (t := bb) hv) (ih _ _ _ _ h hcs hout hsim)
      · rename_i bb hc
        split at h
        · rename_i δ dec2
          subst h
          obtain ⟨hb, hc2⟩ := Conds.append (ps := [bb = δ]) hcs
          have hb : bb = δ := hb.1
          have hv : ∀ x, St.ev _ x = .d (.raw (.bool bb)) → a.eval x = .bool bb := fun x hx => by
            have h := hsim.ev x
            rw [hx] at h
            unfold VA at h
            exact (VD_raw_inv h).1
          have hv := hv _ hc
          exact .step (fun b cs => step_cond (t := δ) (by rw [hv, hb])) (ih _ _ _ _ rfl hc2 hout hsim)
        · subst h; exact hout.elim
      · subst h; exact hout.elim
    · rename_i heq
      cases heq
      exact .step (fun b cs => step_block) (ih _ _ _ _ h hcs hout hsim)
    · rename_i heq
      cases heq
      split at h
      · exact .step (fun b cs => step_loop) (ih _ _ _ _ h hcs hout hsim)
      · subst h
        exact .step (fun b cs => step_loop) (hout E a w hsim)
    · rename_i heq
      cases heq
      split at h
      · exact .step (fun b cs => step_inLoop) (ih _ _ _ _ h hcs hout hsim)
      · subst h
        exact .step (fun b cs => step_inLoop) (hout E a w hsim)
    · rename_i heq
      cases heq
      split at h
      · rename_i k' hk'
        exact .step (fun b cs => step_exit hk') (ih _ _ _ _ h hcs hout hsim)
      · subst h; exact hout.elim
    · rename_i heq
      cases heq
      subst h
      obtain ⟨fn, v, h1, h2, h3⟩ := hout E a w hsim
      exact (Goes.ret h1 hsim.df h2 h3).1
    · rename_i heq
      cases heq
      split at h
      · subst h; exact hout.elim
      · subst h; exact hout.elim
      · rename_i s1 c1 d1 h1
        subst h
        obtain ⟨hc1, hc2⟩ := Conds.append hcs
        exact Goes.code (wp_region (opsRun_ok horc _ h1 hc1 hsim fun E' a' w' hs' => ih _ _ _ _ rfl hc2 hout hs'))
    · rename_i rid rops rk heq
      cases heq
      split at h
      · rename_i hm
        simp only [Bool.and_eq_true] at hm
        split at h
        · subst h; exact hout.elim
        · subst h; exact hout.elim
        · rename_i s1 c1 d1 h1
          subst h
          obtain ⟨hc1, hc2⟩ := Conds.append hcs
          have hb : Below w.heap.size w { w with drawn := w.drawn + 1 } := (Below.refl _ _).drew
          have hs2 := hsim.ext hb
          refine Goes.code (wp_region_held (S := Held rops { w with drawn := w.drawn + 1 }) hm.1 ?_)
          exact anyRun_ok horc hm.2 (fun c a w h => h) _ _ _ h1 hc1 hs2 (fun _ _ _ => rfl) (fun _ => rfl) (fun h => h) fun E' a' w' hs' => ih _ _ _ _ rfl hc2 hout hs'
      · subst h; exact hout.elim
    · subst h; exact hout.elim
end Go.Abs
