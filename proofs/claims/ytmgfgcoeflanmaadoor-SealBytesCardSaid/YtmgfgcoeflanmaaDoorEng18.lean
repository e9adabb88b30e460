/-
  Part of the engine: abstract states of a call (values as trees, things of the call's own), and that each operation of the model does to the world what it does to them. No condition.
-/
import Derived.Test.YtmgfgcoeflanmaaDoorEng17
import Derived.Tactics
namespace Go.Eng
open Go Go.RowKit Go.Lib
variable {P : Program} {gl : Nat → Option (List D)} {C : Cx} {E E' : Env} {s s' : St} {a : Act} {w w' : World}

/-! ### the run of a call, up to the next loop's head -/
/-- From here on the call comes to an ending that R takes. -/
def Goes (P : Program) (f : FuncId) (k : List Item) (R : Ending → World → Prop) (a : Act) (w : World) : Prop :=
  ∀ (b : Frame) (cs : List Frame), b.fn = f → b.kind = .normal → ∃ e w' fr, R e w' ∧ Comes P (lone (b.at a k) cs w) (lone fr cs w') e ∧ fr.fn = f ∧ fr.leaving P w' e
theorem Goes.step {f : FuncId} {k k' : List Item} {R : Ending → World → Prop} (hs : ∀ (b : Frame) (cs : List Frame), _root_.Go.step P (lone (b.at a k) cs w) = .next (lone (b.at a k') cs w)) (h : Goes P f k' R a w) : Goes P f k R a w := fun b cs hb hk =>
  let ⟨e, w', fr, h1, h2, h3⟩ := h b cs hb hk; ⟨e, w', fr, h1, Comes.of_steps (.one (hs b cs)) h2, h3⟩
theorem Goes.code {f : FuncId} {c : Code} {k : List Item} {R : Ending → World → Prop} (hc : c.wp P (fun e a' w' => match e with | .normal => Goes P f k R a' w' | _ => False) a w) : Goes P f (.code c :: k) R a w := fun b cs hb hk => by
  obtain ⟨e, a', w', hq, harr⟩ := hc b k cs
  cases e with
  | normal =>
    obtain ⟨e2, w2, fr, h1, h2, h3⟩ := hq b cs hb hk
    exact ⟨e2, w2, fr, h1, Comes.of_steps harr h2, h3⟩
  | _ => exact hq.elim
theorem Goes.ret {f : FuncId} {k : List Item} {R : Ending → World → Prop} {fn : Func} (hf : P.funcs[f]? = some fn) (hd : a.defers = []) {v : Value} (hr : (results fn a.tmps).run P w = .ok v w) (hR : R (.returned v) w) :
    Goes P f (.code .ret :: k) R a w ∧ Goes P f [] R a w := by
  refine ⟨fun b cs hb hk => ?_, fun b cs hb hk => ?_⟩
  · exact ⟨.returned v, w, _, hR, .one step_ret, hb, rfl, hd, hk, fn, by show P.funcs[b.fn]? = _; rw [hb]; exact hf, hr⟩
  · exact ⟨.returned v, w, _, hR, .one step_end, hb, rfl, hd, hk, fn, by show P.funcs[b.fn]? = _; rw [hb]; exact hf, hr⟩

inductive Out where
  | head (k : List Item) (s : St)
  | ret (s : St)
  | ask (b : Bool)
  | askI (i : Int)
  | bad (k : List Item) (i : Nat)
/-- A region whose order is open: G are the things that none of its operations writes (guessed; a clash strikes one). -/
def anyRunG (P : Program) (orc : Orc) (ops : Array Oper) (s : St) (dec : List Bool) : Nat → List Nat → RR
  | 0, _ => anyRun P orc ops ops.size (Array.replicate ops.size false) [] s dec
  | n + 1, G => match anyRun P orc ops ops.size (Array.replicate ops.size false) G s dec with
    | .bad i => if Nat.ble 3000 i then anyRunG P orc ops s dec n (G.filter fun k => !((3000 + k) == i)) else .bad i
    | r => r
def anyRun2 (P : Program) (orc : Orc) (ops : Array Oper) (s : St) (dec : List Bool) : RR := anyRunG P orc ops s dec 20 (s.heap.map (·.1))
theorem anyRunG_ok {orc : Orc} {ops : Array Oper} {s s' : St} {dec dec' : List Bool} {cs : List Cnd} {fr : List Nat} : ∀ (n : Nat) (G : List Nat), anyRunG P orc ops s dec n G = .ok s' cs dec' fr → ∃ G', anyRun P orc ops ops.size (Array.replicate ops.size false) G' s dec = .ok s' cs dec' fr
  | 0, G, h => ⟨[], h⟩
  | n + 1, G, h => by
    simp only [anyRunG] at h
    split at h
    · split at h
      · exact anyRunG_ok n _ h
      · cases h
    · exact ⟨G, h⟩
def run (P : Program) (orc : Orc) : Nat → List Item → St → List Bool → List Cnd → Out × List Cnd
  | 0, k, s, _, acc => (.head k s, acc)
  | _ + 1, [], s, _, acc => (.ret s, acc)
  | n + 1, .code .skip :: k, s, dec, acc => run P orc n k s dec acc
  | n + 1, .inBlock _ :: k, s, dec, acc => run P orc n k s dec acc
  | n + 1, .code (.seq x y) :: k, s, dec, acc => run P orc n (.code x :: .code y :: k) s dec acc
  | n + 1, .code (.cond c x y) :: k, s, dec, acc =>
    match s.ev c with
    | .known b => run P orc n (.code (if b then x else y) :: k) s dec acc
    | .d (.raw (.bool b)) =>
      match dec with
      | δ :: dec => run P orc n (.code (if δ then x else y) :: k) s dec (acc ++ [.p (b = δ)])
      | [] => (.ask b, acc)
    | _ => (.bad (.code (.cond c x y) :: k) 1001, acc)
  | n + 1, .code (.block id x) :: k, s, dec, acc => run P orc n (.code x :: .inBlock id :: k) s dec acc
  | n + 1, .code (.loop x) :: k, s, dec, acc =>
    match dec with
    | true :: dec => run P orc n (.code x :: .inLoop x :: k) s dec acc
    | _ => (.head (.code x :: .inLoop x :: k) s, acc)
  | n + 1, .inLoop x :: k, s, dec, acc =>
    match dec with
    | true :: dec => run P orc n (.code x :: .inLoop x :: k) s dec acc
    | _ => (.head (.code x :: .inLoop x :: k) s, acc)
  | n + 1, .code (.exit id) :: k, s, dec, acc =>
    match exitTo id k with
    | some k' => run P orc n k' s dec acc
    | none => (.bad (.code (.exit id) :: k) 1002, acc)
  | _ + 1, .code .ret :: _, s, _, acc => (.ret s, acc)
  | n + 1, .code (.region id ops false) :: k, s, dec, acc =>
    match opsRun P orc ops (List.range ops.size) s dec with
    | .ask b => (.ask b, acc)
    | .askI b => (.askI b, acc)
    | .bad i => (.bad (.code (.region id ops false) :: k) i, acc)
    | .ok s1 cs dec1 _ => forceS s1 fun s1 => run P orc n k s1 dec1 (acc ++ cs)
  | n + 1, .code (.region id ops true) :: k, s, dec, acc =>
    if P.follows .mixedOrders && Region.noSelect ops then
      match anyRun2 P orc ops s dec with
      | .ask b => (.ask b, acc)
      | .askI b => (.askI b, acc)
      | .bad i => (.bad (.code (.region id ops true) :: k) i, acc)
      | .ok s1 cs dec1 _ => forceS s1 fun s1 => run P orc n k s1 dec1 (acc ++ cs)
    else (.bad (.code (.region id ops true) :: k) 1004, acc)
  | _ + 1, k, _, _, acc => (.bad k 1003, acc)

/-- What is to be shown where the run stops. -/
def OutOK (C : Cx) (f : FuncId) (R : Ending → World → Prop) : Out → Prop
  | .head k s => ∀ E a w, Sim C E s a w → Goes C.P f k R a w
  | .ret s => ∀ E a w, Sim C E s a w → ∃ fn v, C.P.funcs[f]? = some fn ∧ (results fn a.tmps).run C.P w = .ok v w ∧ R (.returned v) w
  | _ => False

theorem run_mono {orc : Orc} : ∀ (n : Nat) (k : List Item) (s : St) (dec : List Bool) (acc : List Cnd), CndsOK (run P orc n k s dec acc).2 → CndsOK acc := by
  intro n
  induction n with
  | zero => intro k s dec acc h; simp only [run] at h; exact h
  | succ n ih =>
    intro k s dec acc h
    unfold run at h
    split at h <;> (try (rename_i heq; cases heq))
    any_goals exact h
    any_goals exact ih _ _ _ _ h
    · split at h
      · exact ih _ _ _ _ h
      · split at h
        · exact (CndsOK.append (ih _ _ _ _ h)).1
        · exact h
      · exact h
    · split at h
      · exact ih _ _ _ _ h
      · exact h
    · split at h
      · exact ih _ _ _ _ h
      · exact h
    · split at h
      · exact ih _ _ _ _ h
      · exact h
    · split at h
      · exact h
      · exact h
      · exact h
      · rw [forceS_eq] at h; exact (CndsOK.append (ih _ _ _ _ h)).1
    · split at h
      · split at h
        · exact h
        · exact h
        · exact h
        · rw [forceS_eq] at h; exact (CndsOK.append (ih _ _ _ _ h)).1
      · exact h
theorem run_ok' {orc : Orc} (horc : OrcOK P orc) (hP : C.P = P) (hG : C.gl = orc.gl) {f : FuncId} {R : Ending → World → Prop} : ∀ (n : Nat) (k : List Item) (s : St) (dec : List Bool) (acc : List Cnd) (r : Out × List Cnd), run P orc n k s dec acc = r → CndsOK r.2 → OutOK C f R r.1 →
    ∀ {E : Env} {a : Act} {w : World}, Sim C E s a w → Goes P f k R a w := by
  subst hP
  intro n
  induction n with
  | zero => intro k s dec acc r h hcs hout E a w hsim; simp only [run] at h; subst h; exact hout E a w hsim
  | succ n ih =>
    intro k s dec acc r h hcs hout E a w hsim
    unfold run at h
    split at h
    · rename_i heq; cases heq
    · subst h
      obtain ⟨fn, v, h1, h2, h3⟩ := hout E a w hsim
      exact (Goes.ret (k := []) h1 hsim.df h2 h3).2
    · rename_i heq
      cases heq
      exact .step (fun b cs => step_skip) (ih _ _ _ _ _ h hcs hout hsim)
    · rename_i heq
      cases heq
      exact .step (fun b cs => step_inBlock) (ih _ _ _ _ _ h hcs hout hsim)
    · rename_i heq
      cases heq
      exact .step (fun b cs => step_seq) (ih _ _ _ _ _ h hcs hout hsim)
    · rename_i heq
      cases heq
      split at h
      · rename_i bb hc
        have hv : ∀ x, St.ev _ x = .known bb → a.eval x = .bool bb := fun x hx => by
          have h := hsim.ev x
          rw [hx] at h
          unfold VA at h
          exact h
        have hv := hv _ hc
        exact .step (fun b cs => step_cond (t := bb) hv) (ih _ _ _ _ _ h hcs hout hsim)
      · rename_i bb hc
        split at h
        · rename_i δ dec2
          subst h
          have hb : bb = δ := (CndsOK.append (run_mono _ _ _ _ _ hcs)).2.1
          have hv : ∀ x, St.ev _ x = .d (.raw (.bool bb)) → a.eval x = .bool bb := fun x hx => by
            have h := hsim.ev x
            rw [hx] at h
            unfold VA at h
            exact (VD_raw_inv h).1
          have hv := hv _ hc
          exact .step (fun b cs => step_cond (t := δ) (by rw [hv, hb])) (ih _ _ _ _ _ rfl hcs hout hsim)
        · subst h; exact hout.elim
      · subst h; exact hout.elim
    · rename_i heq
      cases heq
      exact .step (fun b cs => step_block) (ih _ _ _ _ _ h hcs hout hsim)
    · rename_i heq
      cases heq
      split at h
      · exact .step (fun b cs => step_loop) (ih _ _ _ _ _ h hcs hout hsim)
      · subst h
        exact .step (fun b cs => step_loop) (hout E a w hsim)
    · rename_i heq
      cases heq
      split at h
      · exact .step (fun b cs => step_inLoop) (ih _ _ _ _ _ h hcs hout hsim)
      · subst h
        exact .step (fun b cs => step_inLoop) (hout E a w hsim)
    · rename_i heq
      cases heq
      split at h
      · rename_i k' hk'
        exact .step (fun b cs => step_exit hk') (ih _ _ _ _ _ h hcs hout hsim)
      · subst h; exact hout.elim
    · rename_i heq
      cases heq
      subst h
      obtain ⟨fn, v, h1, h2, h3⟩ := hout E a w hsim
      exact (Goes.ret h1 hsim.df h2 h3).1
    · rename_i heq
      cases heq
      split at h
      · subst h; exact hout.elim
      · subst h; exact hout.elim
      · subst h; exact hout.elim
      · rename_i s1 c1 d1 f1 h1
        rw [forceS_eq] at h
        subst h
        have hc1 := (CndsOK.append (run_mono _ _ _ _ _ hcs)).2
        exact Goes.code (wp_region (opsRun_ok horc rfl hG _ h1 hc1 hsim fun E' a' w' hs' => ih _ _ _ _ _ rfl hcs hout hs'))
    · rename_i rid rops rk heq
      cases heq
      split at h
      · rename_i hm
        simp only [Bool.and_eq_true] at hm
        split at h
        · subst h; exact hout.elim
        · subst h; exact hout.elim
        · subst h; exact hout.elim
        · rename_i s1 c1 d1 f1 h1
          rw [forceS_eq] at h
          subst h
          have hc1 := (CndsOK.append (run_mono _ _ _ _ _ hcs)).2
          have hb : Below w.heap.size w { w with drawn := w.drawn + 1 } := (Below.refl _ _).drew
          have hs2 := hsim.ext hb
          obtain ⟨G', h1⟩ := anyRunG_ok _ _ h1
          exact Goes.code (wp_region_held hm.1 (anyRun_ok horc hm.2 (fun c a w h => h) rfl hG G' _ _ h1 hc1 hs2 fun E' a' w' hs' => ih _ _ _ _ _ rfl hcs hout hs'))
      · subst h; exact hout.elim
    · subst h; exact hout.elim

/-! ### paths -/
/-- A path to a loop's head: what it comes to, and what holds on it. -/
def path (P : Program) (orc : Orc) (n : Nat) (k : List Item) (s : St) (dec : List Bool) (ts : List Nat) : Option (List Item × St × List Prop) :=
  match run P orc n k s dec [] with
  | (.head k s, acc) => forceS (s.keep ts) fun s => some (k, s, shown acc)
  | _ => none
theorem go_cut (n : Nat) {orc : Orc} (horc : OrcOK P orc) (hP : C.P = P) (hG : C.gl = orc.gl) {f : FuncId} {R : Ending → World → Prop} {k k' : List Item} (dec : List Bool) (ts : List Nat) {cs : List Prop}
    (h : path P orc n k s dec ts = some (k', s', cs)) (hag : lefts (run P orc n k s dec []).2 = rights (run P orc n k s dec []).2) (hcs : Conds cs) (hsim : Sim C E s a w) (hn : ∀ E a w, Sim C E s' a w → Goes P f k' R a w) : Goes P f k R a w := by
  unfold path at h
  split at h
  · rename_i k1 s1 acc h1
    rw [forceS_eq] at h
    simp only [Option.some.injEq, Prod.mk.injEq] at h
    obtain ⟨rfl, rfl, rfl⟩ := h
    rw [h1] at hag
    subst hP
    exact run_ok' horc rfl hG n k s dec [] _ h1 (CndsOK.mk hcs hag) (fun E a w hs => by obtain ⟨E', h'⟩ := hs.keep ts; exact hn E' a w h') hsim
  · cases h

theorem go_head {orc : Orc} (horc : OrcOK P orc) (hP : C.P = P) (hG : C.gl = orc.gl) {f : FuncId} {R : Ending → World → Prop} {k k' : List Item} (dec : List Bool) (ts : List Nat) {cs : List Prop}
    (h : path P orc 4000 k s dec ts = some (k', s', cs)) (hag : lefts (run P orc 4000 k s dec []).2 = rights (run P orc 4000 k s dec []).2) (hcs : Conds cs) (hsim : Sim C E s a w) (hn : ∀ E a w, Sim C E s' a w → Goes P f k' R a w) : Goes P f k R a w :=
  go_cut 4000 horc hP hG dec ts h hag hcs hsim hn

/-! ### the results -/
def retOne (P : Program) (s : St) : ResultVar → Option AV
  | .tmp t => some (s.tmps.getD t .dead)
  | .cell p t => match s.tmps.getD p .dead with
    | .ref k off => stepLoad P t (.ref k off) s
    | _ => none
def retVars (P : Program) (s : St) : List ResultVar → Option (List AV)
  | [] => some []
  | r :: rs => match retOne P s r, retVars P s rs with
    | some x, some xs => some (x :: xs)
    | _, _ => none
def retAV : List AV → AV
  | [] => .dead
  | [x] => x
  | xs => .tup xs
def retSem (tmps : Array Value) : ResultVar → Sem Value
  | .tmp t => pure (tmps.getD t undef)
  | .cell a t => do loadVar t (← asAddr (tmps.getD a undef))
theorem ret_list (hsim : Sim C E s a w) : ∀ (rs : List ResultVar) (xs : List AV), retVars P s rs = some xs →
    ∃ vs : List Value, (rs.mapM (retSem a.tmps)).run P w = .ok vs w ∧ VAs E w (Stable C E s w) xs vs
  | [], xs, h => by
    simp only [retVars, Option.some.injEq] at h; subst h
    exact ⟨[], by simp, by unfold VAs; rfl⟩
  | r :: rs, xs, h => by
    simp only [retVars] at h
    split at h
    · rename_i x xs' hx hxs
      cases h
      obtain ⟨vs, h1, h2⟩ := ret_list hsim rs xs' hxs
      have key : ∃ v, (retSem a.tmps r).run P w = .ok v w ∧ VA E w (Stable C E s w) x v := by
        cases r with
        | tmp t =>
          simp only [retOne, Option.some.injEq] at hx
          subst hx
          exact ⟨a.tmps.getD t undef, rfl, hsim.ev (.tmp t)⟩
        | cell p t =>
          have hp := hsim.ev (.tmp p)
          simp only [retOne] at hx
          have e : s.ev (.tmp p) = s.tmps.getD p .dead := rfl
          split at hx
          · rename_i k off hk
            rw [e, hk] at hp
            obtain ⟨ad, u, h3, h4, h5⟩ := load_run (P := P) hsim.fit hp hx trivial
            refine ⟨u, ?_, h5⟩
            have hp' : a.tmps.getD p undef = .pointer (some ad) := h3
            simp only [retSem, hp', asAddr]
            simpa using h4 w fun _ _ => rfl
          · cases hx
      obtain ⟨v, h4, h5⟩ := key
      refine ⟨v :: vs, by rw [List.mapM_cons]; simp [h4, h1], ?_⟩
      unfold VAs
      exact ⟨v, vs, rfl, h5, h2⟩
    · cases h
theorem ret_run (hsim : Sim C E s a w) {fn : Func} {xs : List AV} (h : retVars P s fn.results.toList = some xs) :
    ∃ v, (results fn a.tmps).run P w = .ok v w ∧ VA E w (Stable C E s w) (retAV xs) v := by
  obtain ⟨vs, h1, h2⟩ := ret_list (P := P) hsim _ _ h
  have hres : (results fn a.tmps).run P w = .ok (if h : vs.toArray.size = 1 then vs.toArray[0] else .tuple vs.toArray) w := by
    have e : fn.results.mapM (retSem a.tmps) = List.toArray <$> fn.results.toList.mapM (retSem a.tmps) := Array.mapM_eq_mapM_toList ..
    have e2 : results fn a.tmps = (do let vs ← fn.results.mapM (retSem a.tmps); pure (if h : vs.size = 1 then vs[0] else .tuple vs)) := by
      unfold results
      congr 1
    rw [e2, e]
    simp [h1]
  refine ⟨_, hres, ?_⟩
  have hl := h2.length
  match xs, vs, hl, h2 with
  | [], [], _, _ => simp only [retAV]; unfold VA; trivial
  | [x], [v], _, h2 =>
    unfold VAs at h2
    obtain ⟨u, us, e, h3, _⟩ := h2
    cases e
    simpa [retAV] using h3
  | x :: y :: xs, u :: v :: vs, _, h2 =>
    simp only [retAV]
    unfold VA
    exact ⟨u :: v :: vs, by simp, h2⟩
/-- What is returned, and what is there behind the call; rows: whether the results' rows are told as data. -/
def thawT (s : St) (G : Nat → Bool) : AV → AV
  | .tup xs => .tup (xs.map (thaw s G))
  | x => thaw s G x
theorem thawT_VA (hf : Fit C E s w) {N' : Nat → Prop} {G : Nat → Bool} (hS : ∀ b, Stable C E s w b → N' b) (hN : ∀ k t, G k = true → s.th k = some t → ∀ b, blk (E k) = some b → N' b)
    {x : AV} {v : Value} (hx : VA E w (Stable C E s w) x v) : VA E w N' (thawT s G x) v := by
  unfold thawT
  split
  · unfold VA at hx ⊢
    obtain ⟨vs, h1, h2⟩ := hx
    exact ⟨vs, h1, VAs.map _ h2 fun x v hx => thaw_VA hf hS hN hx⟩
  · exact thaw_VA hf hS hN hx
theorem Sim.freezeT (h : Sim C E s a w) (G : Nat → Bool) : Sim C E (s.dropTh G (thawT s G)) a w := by
  have st : Step C E E s (s.dropTh G (thawT s G)) w w G _ (thawT s G) := Step.drop' G _
  have hV : ∀ x v, VA E w (Stable C E s w) x v → VA E w (Stable C E (s.dropTh G (thawT s G)) w) (thawT s G x) v := fun x v hx =>
    thawT_VA h.fit st.stable (fun k t hG hk b hb => h.fit.dropped G _ hk hG hb) hx
  exact ⟨h.fit.dropTh G _ fun _ => hV, VAs.map _ h.tm hV, h.df⟩
def retSt (rows : Bool) (s : St) (x : AV) : St :=
  let s1 : St := { s with tmps := [x] }
  let ks := if rows then rowKeys s.heap [x] else []
  (s1.dropTh (fun k => ks.any (· == k)) (thawT s1 fun k => ks.any (· == k))).canon
def pathR (P : Program) (orc : Orc) (n : Nat) (k : List Item) (s : St) (dec : List Bool) (rs : List ResultVar) (rows : Bool) : Option (St × List Prop) :=
  match run P orc n k s dec [] with
  | (.ret s', cs) => (retVars P s' rs).map fun xs => forceS (retSt rows s' (retAV xs)) fun sr => (sr, shown cs)
  | _ => none

/-! ### a function's contract -/
def initSt (n : Nat) (args : List AV) (H : List (Nat × Th)) : St := { base := H.length, tmps := args ++ List.replicate (n - args.length) .dead, heap := H }
/-- What a contract asks of the ending. -/
def RSpec (C : Cx) (sr : St) (e : Ending) (w' : World) : Prop := ∃ v E', e = .returned v ∧ Sim C E' sr { tmps := #[v], defers := [] } w'
theorem spec_of {g : FuncId} {fn : Func} {args : List AV} {H H' : List (Nat × Th)} {ret : AV} (hf : P.funcs[g]? = some fn) (hb : fn.body.isSome = true)
    (h : ∀ {w : World} {N : Nat → Prop} {E0 : Env} {a : Act}, Sim (cx P gl w N E0 H) E0 (initSt fn.ntmps args H) a w → Goes P g [.code (fn.body.getD .skip)] (RSpec (cx P gl w N E0 H) ⟨H.length, [ret], H'⟩) a w) : Spec P gl g args H ret H' := by
  intro w N E vs hfit hargs cs
  obtain ⟨c, hc⟩ := Option.isSome_iff_exists.1 hb
  have hlen := hargs.length
  have hs : Sim (cx P gl w N E H) E (initSt fn.ntmps args H) { tmps := vs.toArray ++ Array.replicate (fn.ntmps - vs.length) undef, defers := [] } w := by
    refine ⟨⟨rfl, hfit.low, hfit.keep, hfit.keys, hfit.th, hfit.dis, hfit.gl⟩, ?_, rfl⟩
    have e : (vs.toArray ++ Array.replicate (fn.ntmps - vs.length) undef).toList = vs ++ List.replicate (fn.ntmps - args.length) undef := by simp [hlen]
    show VAs E w (Stable (cx P gl w N E H) E ⟨H.length, [], H⟩ w) (args ++ List.replicate (fn.ntmps - args.length) .dead) (vs.toArray ++ Array.replicate (fn.ntmps - vs.length) undef).toList
    rw [e]
    refine hargs.append (VAs.of_get (by simp) fun i x v hx hu => ?_)
    rw [List.getElem?_replicate] at hx
    split at hx
    · cases hx; unfold VA; trivial
    · cases hx
  let b : Frame := { (default : Frame) with fn := g, kind := .normal }
  obtain ⟨e, w', fr, ⟨v, E', h1, h2⟩, h3, h4, h5⟩ := h hs b cs rfl rfl
  refine ⟨e, w', fr, ?_, ?_, h4, h5⟩
  · refine ⟨v, E', h1, ⟨h2.fit.base, h2.fit.low, h2.fit.keep, h2.fit.keys, h2.fit.th, h2.fit.dis, h2.fit.gl⟩, ?_⟩
    obtain ⟨u, hu, hv⟩ := h2.tm.get 0 ret rfl
    simp only [List.getElem?_cons_zero, Option.some.injEq] at hu
    subst hu
    exact hv
  · have henter : Frame.enter P g vs.toArray .normal = b.at { tmps := vs.toArray ++ Array.replicate (fn.ntmps - vs.length) undef, defers := [] } [.code c] := by
      simp [Frame.enter, Frame.at, hf, hc, b]
    rw [henter]
    have e2 : fn.body.getD .skip = c := by rw [hc]; rfl
    rw [e2] at h3
    exact h3
/-- What one state says, another one says. -/
structure Says (C : Cx) (s s' : St) : Prop where
  out : ∀ (E : Env) (a : Act) (w : World), Sim C E s a w → ∃ E', Sim C E' s' a w
theorem Says.refl (s : St) : Says C s s := ⟨fun _ _ _ h => ⟨_, h⟩⟩
theorem Says.trans {s1 s2 s3 : St} (h : Says C s1 s2) (k : Says C s2 s3) : Says C s1 s3 := ⟨fun E a w hs => let ⟨_, h1⟩ := h.out E a w hs; k.out _ _ _ h1⟩
theorem Says.of_eq (h : s = s') : Says C s s' := h ▸ Says.refl s
theorem go_says {orc : Orc} (horc : OrcOK P orc) (hP : C.P = P) (hG : C.gl = orc.gl) {g : FuncId} {fn : Func} (hf : P.funcs[g]? = some fn) {k : List Item} {sr sr' : St} {cs : List Prop} (dec : List Bool) (rows : Bool)
    (h : pathR P orc 4000 k s dec fn.results.toList rows = some (sr', cs)) (hag : lefts (run P orc 4000 k s dec []).2 = rights (run P orc 4000 k s dec []).2) (hcs : Conds cs) (hr : Says C sr' sr) (hsim : Sim C E s a w) : Goes P g k (RSpec C sr) a w := by
  unfold pathR at h
  split at h
  · rename_i s1 c1 h1
    obtain ⟨xs, hxs, h⟩ := Option.map_eq_some_iff.1 h
    rw [forceS_eq] at h
    simp only [Prod.mk.injEq] at h
    obtain ⟨rfl, rfl⟩ := h
    rw [h1] at hag
    refine run_ok' horc hP hG 4000 k s dec [] _ h1 (CndsOK.mk hcs hag) (fun E1 a1 w1 hs1 => ?_) hsim
    subst hP
    obtain ⟨v, h2, h3⟩ := ret_run (P := C.P) hs1 hxs
    refine ⟨fn, v, hf, h2, v, ?_⟩
    have hs2 : Sim C E1 { s1 with tmps := [retAV xs] } { tmps := #[v], defers := [] } w1 := ⟨hs1.fit.tmps _, by
      show VAs E1 w1 (Stable C E1 s1 w1) [retAV xs] [v]
      unfold VAs
      exact ⟨v, [], rfl, h3, by unfold VAs; rfl⟩, rfl⟩
    obtain ⟨E2, hs3⟩ := (hs2.freezeT _).canon
    obtain ⟨E3, hs4⟩ := hr.out _ _ _ hs3
    exact ⟨E3, rfl, hs4⟩
  · cases h
theorem go_ret {orc : Orc} (horc : OrcOK P orc) (hP : C.P = P) (hG : C.gl = orc.gl) {g : FuncId} {fn : Func} (hf : P.funcs[g]? = some fn) {k : List Item} {sr sr' : St} {cs : List Prop} (dec : List Bool) (rows : Bool)
    (h : pathR P orc 4000 k s dec fn.results.toList rows = some (sr', cs)) (hag : lefts (run P orc 4000 k s dec []).2 = rights (run P orc 4000 k s dec []).2) (hcs : Conds cs) (hr : sr' = sr) (hsim : Sim C E s a w) : Goes P g k (RSpec C sr) a w :=
  go_says horc hP hG hf dec rows h hag hcs (Says.of_eq hr) hsim
end Go.Eng
