/-
  Part of the engine: abstract states of a call, and that the operations do what is told of them. No condition.
-/
import Derived.Test.YtbppcjkpkelbfaaDoorEng17
import Derived.Tactics
namespace Go.Eng
open Go Go.RowKit Go.Lib
variable {P : Program} {gl : Nat → Option (List D)} {C : Cx} {E E' : Env} {s s' : St} {a : Act} {w w' : World}
def Goes (P : Program) (f : FuncId) (k : List Item) (R : Ending → World → Prop) (a : Act) (w : World) : Prop :=
 ∀ (b : Frame) (cs : List Frame), b.fn = f → b.kind = .normal → ∃ e w' fr, R e w' ∧ Comes P (lone (b.at a k) cs w) (lone fr cs w') e ∧ fr.fn = f ∧ fr.leaving P w' e
theorem Goes.step {f : FuncId} {k k' : List Item} {R : Ending → World → Prop} (hs : ∀ (b : Frame) (cs : List Frame), _root_.Go.step P (lone (b.at a k) cs w) = .next (lone (b.at a k') cs w)) (h : Goes P f k' R a w) : Goes P f k R a w := fun b cs hb hk =>
 let ⟨e, w', fr, h1, h2, h3⟩ := h b cs hb hk; ⟨e, w', fr, h1, Comes.of_steps (.one (hs b cs)) h2, h3⟩
theorem Goes.code {f : FuncId} {c : Code} {k : List Item} {R : Ending → World → Prop} (hc : c.wp P (fun e a' w' => match e with | .normal => Goes P f k R a' w' | _ => False) a w) : Goes P f (.code c :: k) R a w := fun b cs hb hk => by
 obtain ⟨e, a', w', hq, harr⟩ := hc b k cs
 cases e with
 | normal =>
  obtain ⟨e2, w2, fr, h1, h2, h3⟩ := hq b cs hb hk
  exact ⟨e2, w2, fr, h1, Comes.of_steps harr h2, h3⟩
 | _ => exact hq.elim
theorem Goes.ret {f : FuncId} {k : List Item} {R : Ending → World → Prop} {fn : Func} (hf : P.funcs[f]? = some fn) (hd : a.defers = []) {v : Value} (hr : (results fn a.tmps).run P w = .ok v w) (hR : R (.returned v) w) :
  Goes P f (.code .ret :: k) R a w ∧ Goes P f [] R a w := by
 refine ⟨fun b cs hb hk => ?_, fun b cs hb hk => ?_⟩
 · exact ⟨.returned v, w, _, hR, .one step_ret, hb, rfl, hd, hk, fn, by show P.funcs[b.fn]? = _; rw [hb]; exact hf, hr⟩
 · exact ⟨.returned v, w, _, hR, .one step_end, hb, rfl, hd, hk, fn, by show P.funcs[b.fn]? = _; rw [hb]; exact hf, hr⟩
inductive Out where
 | head (k : List Item) (s : St)
 | ret (s : St)
 | ask (b : Bool)
 | askI (i : Int)
 | bad (k : List Item) (i : Nat)
def anyRunG (P : Program) (orc : Orc) (ops : Array Oper) (s : St) (dec : List Bool) : Nat → List Nat → RR
 | 0, _ => anyRun P orc ops ops.size (Array.replicate ops.size false) [] s dec
 | n + 1, G => match anyRun P orc ops ops.size (Array.replicate ops.size false) G s dec with
  | .bad i => if Nat.ble 3000 i then anyRunG P orc ops s dec n (G.filter fun k => !((3000 + k) == i)) else .bad i
  | r => r
def anyRun2 (P : Program) (orc : Orc) (ops : Array Oper) (s : St) (dec : List Bool) : RR := anyRunG P orc ops s dec 20 (s.heap.map (·.1))
theorem anyRunG_ok {orc : Orc} {ops : Array Oper} {s s' : St} {dec dec' : List Bool} {cs : List Cnd} {fr : List Nat} : ∀ (n : Nat) (G : List Nat), anyRunG P orc ops s dec n G = .ok s' cs dec' fr → ∃ G', anyRun P orc ops ops.size (Array.replicate ops.size false) G' s dec = .ok s' cs dec' fr
 | 0, G, h => ⟨[], h⟩
 | n + 1, G, h => by
  simp only [anyRunG] at h
  split at h
  ·
   split at h
   · exact anyRunG_ok n _ h
   · cases h
  · exact ⟨G, h⟩
def run (P : Program) (orc : Orc) : Nat → List Item → St → List Bool → List Cnd → Out × List Cnd
 | 0, k, s, _, acc => (.head k s, acc)
 | _ + 1, [], s, _, acc => (.ret s, acc)
 | n + 1, .code .skip :: k, s, dec, acc => run P orc n k s dec acc
 | n + 1, .inBlock _ :: k, s, dec, acc => run P orc n k s dec acc
 | n + 1, .code (.seq x y) :: k, s, dec, acc => run P orc n (.code x :: .code y :: k) s dec acc
 | n + 1, .code (.cond c x y) :: k, s, dec, acc =>
  match s.ev c with
  | .known b => run P orc n (.code (if b then x else y) :: k) s dec acc
  | .d (.raw (.bool b)) =>
   match dec with
   | δ :: dec => run P orc n (.code (if δ then x else y) :: k) s dec (acc ++ [.p (b = δ)])
   | [] => (.ask b, acc)
  | _ => (.bad (.code (.cond c x y) :: k) 1001, acc)
 | n + 1, .code (.block id x) :: k, s, dec, acc => run P orc n (.code x :: .inBlock id :: k) s dec acc
 | n + 1, .code (.loop x) :: k, s, dec, acc =>
  match dec with
  | true :: dec => run P orc n (.code x :: .inLoop x :: k) s dec acc
  | _ => (.head (.code x :: .inLoop x :: k) s, acc)
 | n + 1, .inLoop x :: k, s, dec, acc =>
  match dec with
  | true :: dec => run P orc n (.code x :: .inLoop x :: k) s dec acc
  | _ => (.head (.code x :: .inLoop x :: k) s, acc)
 | n + 1, .code (.exit id) :: k, s, dec, acc =>
  match exitTo id k with
  | some k' => run P orc n k' s dec acc
  | none => (.bad (.code (.exit id) :: k) 1002, acc)
 | _ + 1, .code .ret :: _, s, _, acc => (.ret s, acc)
 | n + 1, .code (.region id ops false) :: k, s, dec, acc =>
  match opsRun P orc ops (List.range ops.size) s dec with
  | .ask b => (.ask b, acc)
  | .askI b => (.askI b, acc)
  | .bad i => (.bad (.code (.region id ops false) :: k) i, acc)
  | .ok s1 cs dec1 _ => forceS s1 fun s1 => run P orc n k s1 dec1 (acc ++ cs)
 | n + 1, .code (.region id ops true) :: k, s, dec, acc =>
  if P.follows .mixedOrders && Region.noSelect ops then
   match anyRun2 P orc ops s dec with
   | .ask b => (.ask b, acc)
   | .askI b => (.askI b, acc)
   | .bad i => (.bad (.code (.region id ops true) :: k) i, acc)
   | .ok s1 cs dec1 _ => forceS s1 fun s1 => run P orc n k s1 dec1 (acc ++ cs)
  else (.bad (.code (.region id ops true) :: k) 1004, acc)
 | _ + 1, k, _, _, acc => (.bad k 1003, acc)
def OutOK (C : Cx) (f : FuncId) (R : Ending → World → Prop) : Out → Prop
 | .head k s => ∀ E a w, Sim C E s a w → Goes C.P f k R a w
 | .ret s => ∀ E a w, Sim C E s a w → ∃ fn v, C.P.funcs[f]? = some fn ∧ (results fn a.tmps).run C.P w = .ok v w ∧ R (.returned v) w
 | _ => False
theorem run_mono {orc : Orc} : ∀ (n : Nat) (k : List Item) (s : St) (dec : List Bool) (acc : List Cnd), CndsOK (run P orc n k s dec acc).2 → CndsOK acc := by
 intro n
 induction n with
 | zero => intro k s dec acc h; simp only [run] at h; exact h
 | succ n ih =>
  intro k s dec acc h
  unfold run at h
  split at h <;> (try (rename_i heq; cases heq))
  any_goals exact h
  any_goals exact ih _ _ _ _ h
  ·
   split at h
   · exact ih _ _ _ _ h
   ·
    split at h
    · exact (CndsOK.append (ih _ _ _ _ h)).1
    · exact h
   · exact h
  ·
   split at h
   · exact ih _ _ _ _ h
   · exact h
  ·
   split at h
   · exact ih _ _ _ _ h
   · exact h
  ·
   split at h
   · exact ih _ _ _ _ h
   · exact h
  ·
   split at h
   · exact h
   · exact h
   · exact h
   · rw [forceS_eq] at h; exact (CndsOK.append (ih _ _ _ _ h)).1
  ·
   split at h
   ·
    split at h
    · exact h
    · exact h
    · exact h
    · rw [forceS_eq] at h; exact (CndsOK.append (ih _ _ _ _ h)).1
   · exact h
theorem run_ok' {orc : Orc} (horc : OrcOK P orc) (hP : C.P = P) (hG : C.gl = orc.gl) {f : FuncId} {R : Ending → World → Prop} : ∀ (n : Nat) (k : List Item) (s : St) (dec : List Bool) (acc : List Cnd) (r : Out × List Cnd), run P orc n k s dec acc = r → CndsOK r.2 → OutOK C f R r.1 →
  ∀ {E : Env} {a : Act} {w : World}, Sim C E s a w → Goes P f k R a w := by
 subst hP
 intro n
 induction n with
 | zero => intro k s dec acc r h hcs hout E a w hsim; simp only [run] at h; subst h; exact hout E a w hsim
 | succ n ih =>
  intro k s dec acc r h hcs hout E a w hsim
  unfold run at h
  split at h
  · rename_i heq; cases heq
  ·
   subst h
   obtain ⟨fn, v, h1, h2, h3⟩ := hout E a w hsim
   exact (Goes.ret (k := []) h1 hsim.df h2 h3).2
  ·
   rename_i heq
   cases heq
   exact .step (fun b cs => step_skip) (ih _ _ _ _ _ h hcs hout hsim)
  ·
   rename_i heq
   cases heq
   exact .step (fun b cs => step_inBlock) (ih _ _ _ _ _ h hcs hout hsim)
  ·
   rename_i heq
   cases heq
   exact .step (fun b cs => step_seq) (ih _ _ _ _ _ h hcs hout hsim)
  ·
   rename_i heq
   cases heq
   split at h
   ·
    rename_i bb hc
    have hv : ∀ x, St.ev _ x = .known bb → a.eval x = .bool bb := fun x hx => by
     have h := hsim.ev x
     rw [hx] at h
     unfold VA at h
     exact h
    have hv := hv _ hc
    exact .step (fun b cs => step_cond (t := bb) hv) (ih _ _ _ _ _ h hcs hout hsim)
   ·
    rename_i bb hc
    split at h
    ·
     rename_i δ dec2
     subst h
     have hb : bb = δ := (CndsOK.append (run_mono _ _ _ _ _ hcs)).2.1
     have hv : ∀ x, St.ev _ x = .d (.raw (.bool bb)) → a.eval x = .bool bb := fun x hx => by
      have h := hsim.ev x
      rw [hx] at h
      unfold VA at h
      exact (VD_raw_inv h).1
     have hv := hv _ hc
     exact .step (fun b cs => step_cond (t := δ) (by rw [hv, hb])) (ih _ _ _ _ _ rfl hcs hout hsim)
    · subst h; exact hout.elim
   · subst h; exact hout.elim
  ·
   rename_i heq
   cases heq
   exact .step (fun b cs => step_block) (ih _ _ _ _ _ h hcs hout hsim)
  ·
   rename_i heq
   cases heq
   split at h
   · exact .step (fun b cs => step_loop) (ih _ _ _ _ _ h hcs hout hsim)
   ·
    subst h
    exact .step (fun b cs => step_loop) (hout E a w hsim)
  ·
   rename_i heq
   cases heq
   split at h
   · exact .step (fun b cs => step_inLoop) (ih _ _ _ _ _ h hcs hout hsim)
   ·
    subst h
    exact .step (fun b cs => step_inLoop) (hout E a w hsim)
  ·
   rename_i heq
   cases heq
   split at h
   ·
    rename_i k' hk'
    exact .step (fun b cs => step_exit hk') (ih _ _ _ _ _ h hcs hout hsim)
   · subst h; exact hout.elim
  ·
   rename_i heq
   cases heq
   subst h
   obtain ⟨fn, v, h1, h2, h3⟩ := hout E a w hsim
   exact (Goes.ret h1 hsim.df h2 h3).1
  ·
   rename_i heq
   cases heq
   split at h
   · subst h; exact hout.elim
   · subst h; exact hout.elim
   · subst h; exact hout.elim
   ·
    rename_i s1 c1 d1 f1 h1
    rw [forceS_eq] at h
    subst h
    have hc1 := (CndsOK.append (run_mono _ _ _ _ _ hcs)).2
    exact Goes.code (wp_region (opsRun_ok horc rfl hG _ h1 hc1 hsim fun E' a' w' hs' => ih _ _ _ _ _ rfl hcs hout hs'))
  ·
   rename_i rid rops rk heq
   cases heq
   split at h
   ·
    rename_i hm
    simp only [Bool.and_eq_true] at hm
    split at h
    · subst h; exact hout.elim
    · subst h; exact hout.elim
    · subst h; exact hout.elim
    ·
     rename_i s1 c1 d1 f1 h1
     rw [forceS_eq] at h
     subst h
     have hc1 := (CndsOK.append (run_mono _ _ _ _ _ hcs)).2
     have hb : Below w.heap.size w { w with drawn := w.drawn + 1 } := (Below.refl _ _).drew
     have hs2 := hsim.ext hb
     obtain ⟨G', h1⟩ := anyRunG_ok _ _ h1
     exact Goes.code (wp_region_held hm.1 (anyRun_ok horc hm.2 (fun c a w h => h) rfl hG G' _ _ h1 hc1 hs2 fun E' a' w' hs' => ih _ _ _ _ _ rfl hcs hout hs'))
   · subst h; exact hout.elim
  · subst h; exact hout.elim
def path (P : Program) (orc : Orc) (n : Nat) (k : List Item) (s : St) (dec : List Bool) (ts : List Nat) : Option (List Item × St × List Prop) :=
 match run P orc n k s dec [] with
 | (.head k s, acc) => forceS (s.keep ts) fun s => some (k, s, shown acc)
 | _ => none
theorem go_cut (n : Nat) {orc : Orc} (horc : OrcOK P orc) (hP : C.P = P) (hG : C.gl = orc.gl) {f : FuncId} {R : Ending → World → Prop} {k k' : List Item} (dec : List Bool) (ts : List Nat) {cs : List Prop}
  (h : path P orc n k s dec ts = some (k', s', cs)) (hag : lefts (run P orc n k s dec []).2 = rights (run P orc n k s dec []).2) (hcs : Conds cs) (hsim : Sim C E s a w) (hn : ∀ E a w, Sim C E s' a w → Goes P f k' R a w) : Goes P f k R a w := by
 unfold path at h
 split at h
 ·
  rename_i k1 s1 acc h1
  rw [forceS_eq] at h
  simp only [Option.some.injEq, Prod.mk.injEq] at h
  obtain ⟨rfl, rfl, rfl⟩ := h
  rw [h1] at hag
  subst hP
  exact run_ok' horc rfl hG n k s dec [] _ h1 (CndsOK.mk hcs hag) (fun E a w hs => by obtain ⟨E', h'⟩ := hs.keep ts; exact hn E' a w h') hsim
 · cases h
def retOne (P : Program) (s : St) : ResultVar → Option AV
 | .tmp t => some (s.tmps.getD t .dead)
 | .cell p t => match s.tmps.getD p .dead with
  | .ref k off => stepLoad P t (.ref k off) s
  | _ => none
def retVars (P : Program) (s : St) : List ResultVar → Option (List AV)
 | [] => some []
 | r :: rs => match retOne P s r, retVars P s rs with
  | some x, some xs => some (x :: xs)
  | _, _ => none
def retAV : List AV → AV
 | [] => .dead
 | [x] => x
 | xs => .tup xs
def retSem (tmps : Array Value) : ResultVar → Sem Value
 | .tmp t => pure (tmps.getD t undef)
 | .cell a t => do loadVar t (← asAddr (tmps.getD a undef))
theorem ret_list (hsim : Sim C E s a w) : ∀ (rs : List ResultVar) (xs : List AV), retVars P s rs = some xs →
  ∃ vs : List Value, (rs.mapM (retSem a.tmps)).run P w = .ok vs w ∧ VAs E w (Stable C E s w) xs vs
 | [], xs, h => by
  simp only [retVars, Option.some.injEq] at h; subst h
  exact ⟨[], by simp, by unfold VAs; rfl⟩
 | r :: rs, xs, h => by
  simp only [retVars] at h
  split at h
  ·
   rename_i x xs' hx hxs
   cases h
   obtain ⟨vs, h1, h2⟩ := ret_list hsim rs xs' hxs
   have key : ∃ v, (retSem a.tmps r).run P w = .ok v w ∧ VA E w (Stable C E s w) x v := by
    cases r with
    | tmp t =>
     simp only [retOne, Option.some.injEq] at hx
     subst hx
     exact ⟨a.tmps.getD t undef, rfl, hsim.ev (.tmp t)⟩
    | cell p t =>
     have hp := hsim.ev (.tmp p)
     simp only [retOne] at hx
     have e : s.ev (.tmp p) = s.tmps.getD p .dead := rfl
     split at hx
     ·
      rename_i k off hk
      rw [e, hk] at hp
      obtain ⟨ad, u, h3, h4, h5⟩ := load_run (P := P) hsim.fit hp hx trivial
      refine ⟨u, ?_, h5⟩
      have hp' : a.tmps.getD p undef = .pointer (some ad) := h3
      simp only [retSem, hp', asAddr]
      simpa using h4 w fun _ _ => rfl
     · cases hx
   obtain ⟨v, h4, h5⟩ := key
   refine ⟨v :: vs, by rw [List.mapM_cons]; simp [h4, h1], ?_⟩
   unfold VAs
   exact ⟨v, vs, rfl, h5, h2⟩
  · cases h
theorem ret_run (hsim : Sim C E s a w) {fn : Func} {xs : List AV} (h : retVars P s fn.results.toList = some xs) :
  ∃ v, (results fn a.tmps).run P w = .ok v w ∧ VA E w (Stable C E s w) (retAV xs) v := by
 obtain ⟨vs, h1, h2⟩ := ret_list (P := P) hsim _ _ h
 have hres : (results fn a.tmps).run P w = .ok (if h : vs.toArray.size = 1 then vs.toArray[0] else .tuple vs.toArray) w := by
  have e : fn.results.mapM (retSem a.tmps) = List.toArray <$> fn.results.toList.mapM (retSem a.tmps) := Array.mapM_eq_mapM_toList ..
  have e2 : results fn a.tmps = (do let vs ← fn.results.mapM (retSem a.tmps); pure (if h : vs.size = 1 then vs[0] else .tuple vs)) := by
   unfold results
   congr 1
  rw [e2, e]
  simp [h1]
 refine ⟨_, hres, ?_⟩
 have hl := h2.length
 match xs, vs, hl, h2 with
 | [], [], _, _ => simp only [retAV]; unfold VA; trivial
 | [x], [v], _, h2 =>
  unfold VAs at h2
  obtain ⟨u, us, e, h3, _⟩ := h2
  cases e
  simpa [retAV] using h3
 | x :: y :: xs, u :: v :: vs, _, h2 =>
  simp only [retAV]
  unfold VA
  exact ⟨u :: v :: vs, by simp, h2⟩
def thawT (s : St) (G : Nat → Bool) : AV → AV
 | .tup xs => .tup (xs.map (thaw s G))
 | x => thaw s G x
theorem thawT_VA (hf : Fit C E s w) {N' : Nat → Prop} {G : Nat → Bool} (hS : ∀ b, Stable C E s w b → N' b) (hN : ∀ k t, G k = true → s.th k = some t → ∀ b, blk (E k) = some b → N' b)
  {x : AV} {v : Value} (hx : VA E w (Stable C E s w) x v) : VA E w N' (thawT s G x) v := by
 unfold thawT
 split
 ·
  unfold VA at hx ⊢
  obtain ⟨vs, h1, h2⟩ := hx
  exact ⟨vs, h1, VAs.map _ h2 fun x v hx => thaw_VA hf hS hN hx⟩
 · exact thaw_VA hf hS hN hx
theorem Sim.freezeT (h : Sim C E s a w) (G : Nat → Bool) : Sim C E (s.dropTh G (thawT s G)) a w := by
 have st : Step C E E s (s.dropTh G (thawT s G)) w w G _ (thawT s G) := Step.drop' G _
 have hV : ∀ x v, VA E w (Stable C E s w) x v → VA E w (Stable C E (s.dropTh G (thawT s G)) w) (thawT s G x) v := fun x v hx =>
  thawT_VA h.fit st.stable (fun k t hG hk b hb => h.fit.dropped G _ hk hG hb) hx
 exact ⟨h.fit.dropTh G _ fun _ => hV, VAs.map _ h.tm hV, h.df⟩
def retSt (rows : Bool) (s : St) (x : AV) : St :=
 let s1 : St := { s with tmps := [x] }
 let ks := if rows then rowKeys s.heap [x] else []
 (s1.dropTh (fun k => ks.any (· == k)) (thawT s1 fun k => ks.any (· == k))).canon
def pathR (P : Program) (orc : Orc) (n : Nat) (k : List Item) (s : St) (dec : List Bool) (rs : List ResultVar) (rows : Bool) : Option (St × List Prop) :=
 match run P orc n k s dec [] with
 | (.ret s', cs) => (retVars P s' rs).map fun xs => forceS (retSt rows s' (retAV xs)) fun sr => (sr, shown cs)
 | _ => none
def initSt (n : Nat) (args : List AV) (H : List (Nat × Th)) : St := { base := H.length, tmps := args ++ List.replicate (n - args.length) .dead, heap := H }
def RSpec (C : Cx) (sr : St) (e : Ending) (w' : World) : Prop := ∃ v E', e = .returned v ∧ Sim C E' sr { tmps := #[v], defers := [] } w'
theorem spec_of {g : FuncId} {fn : Func} {args : List AV} {H H' : List (Nat × Th)} {ret : AV} (hf : P.funcs[g]? = some fn) (hb : fn.body.isSome = true)
  (h : ∀ {w : World} {N : Nat → Prop} {E0 : Env} {a : Act}, Sim (cx P gl w N E0 H) E0 (initSt fn.ntmps args H) a w → Goes P g [.code (fn.body.getD .skip)] (RSpec (cx P gl w N E0 H) ⟨H.length, [ret], H'⟩) a w) : Spec P gl g args H ret H' := by
 intro w N E vs hfit hargs cs
 obtain ⟨c, hc⟩ := Option.isSome_iff_exists.1 hb
 have hlen := hargs.length
 have hs : Sim (cx P gl w N E H) E (initSt fn.ntmps args H) { tmps := vs.toArray ++ Array.replicate (fn.ntmps - vs.length) undef, defers := [] } w := by
  refine ⟨⟨rfl, hfit.low, hfit.keep, hfit.keys, hfit.th, hfit.dis, hfit.gl⟩, ?_, rfl⟩
  have e : (vs.toArray ++ Array.replicate (fn.ntmps - vs.length) undef).toList = vs ++ List.replicate (fn.ntmps - args.length) undef := by simp [hlen]
  show VAs E w (Stable (cx P gl w N E H) E ⟨H.length, [], H⟩ w) (args ++ List.replicate (fn.ntmps - args.length) .dead) (vs.toArray ++ Array.replicate (fn.ntmps - vs.length) undef).toList
  rw [e]
  refine hargs.append (VAs.of_get (by simp) fun i x v hx hu => ?_)
  rw [List.getElem?_replicate] at hx
  split at hx
  · cases hx; unfold VA; trivial
  · cases hx
 let b : Frame := { (default : Frame) with fn := g, kind := .normal }
 obtain ⟨e, w', fr, ⟨v, E', h1, h2⟩, h3, h4, h5⟩ := h hs b cs rfl rfl
 refine ⟨e, w', fr, ?_, ?_, h4, h5⟩
 ·
  refine ⟨v, E', h1, ⟨h2.fit.base, h2.fit.low, h2.fit.keep, h2.fit.keys, h2.fit.th, h2.fit.dis, h2.fit.gl⟩, ?_⟩
  obtain ⟨u, hu, hv⟩ := h2.tm.get 0 ret rfl
  simp only [List.getElem?_cons_zero, Option.some.injEq] at hu
  subst hu
  exact hv
 ·
  have henter : Frame.enter P g vs.toArray .normal = b.at { tmps := vs.toArray ++ Array.replicate (fn.ntmps - vs.length) undef, defers := [] } [.code c] := by
   simp [Frame.enter, Frame.at, hf, hc, b]
  rw [henter]
  have e2 : fn.body.getD .skip = c := by rw [hc]; rfl
  rw [e2] at h3
  exact h3
structure Says (C : Cx) (s s' : St) : Prop where
 out : ∀ (E : Env) (a : Act) (w : World), Sim C E s a w → ∃ E', Sim C E' s' a w
theorem Says.refl (s : St) : Says C s s := ⟨fun _ _ _ h => ⟨_, h⟩⟩
theorem Says.trans {s1 s2 s3 : St} (h : Says C s1 s2) (k : Says C s2 s3) : Says C s1 s3 := ⟨fun E a w hs => let ⟨_, h1⟩ := h.out E a w hs; k.out _ _ _ h1⟩
theorem Says.of_eq (h : s = s') : Says C s s' := h ▸ Says.refl s
theorem go_says {orc : Orc} (horc : OrcOK P orc) (hP : C.P = P) (hG : C.gl = orc.gl) {g : FuncId} {fn : Func} (hf : P.funcs[g]? = some fn) {k : List Item} {sr sr' : St} {cs : List Prop} (dec : List Bool) (rows : Bool)
  (h : pathR P orc 4000 k s dec fn.results.toList rows = some (sr', cs)) (hag : lefts (run P orc 4000 k s dec []).2 = rights (run P orc 4000 k s dec []).2) (hcs : Conds cs) (hr : Says C sr' sr) (hsim : Sim C E s a w) : Goes P g k (RSpec C sr) a w := by
 unfold pathR at h
 split at h
 ·
  rename_i s1 c1 h1
  obtain ⟨xs, hxs, h⟩ := Option.map_eq_some_iff.1 h
  rw [forceS_eq] at h
  simp only [Prod.mk.injEq] at h
  obtain ⟨rfl, rfl⟩ := h
  rw [h1] at hag
  refine run_ok' horc hP hG 4000 k s dec [] _ h1 (CndsOK.mk hcs hag) (fun E1 a1 w1 hs1 => ?_) hsim
  subst hP
  obtain ⟨v, h2, h3⟩ := ret_run (P := C.P) hs1 hxs
  refine ⟨fn, v, hf, h2, v, ?_⟩
  have hs2 : Sim C E1 { s1 with tmps := [retAV xs] } { tmps := #[v], defers := [] } w1 := ⟨hs1.fit.tmps _, by
   show VAs E1 w1 (Stable C E1 s1 w1) [retAV xs] [v]
   unfold VAs
   exact ⟨v, [], rfl, h3, by unfold VAs; rfl⟩, rfl⟩
  obtain ⟨E2, hs3⟩ := (hs2.freezeT _).canon
  obtain ⟨E3, hs4⟩ := hr.out _ _ _ hs3
  exact ⟨E3, rfl, hs4⟩
 · cases h
theorem bd (b : Bool) : b = true ∨ b = false := Bool.eq_false_or_eq_true b
abbrev vI (x : Int) : AV := .d (.raw (.int .i64 x))
abbrev vS (x : ByteArray) : AV := .d (.raw (.string x))
abbrev vB (x : Bool) : AV := .d (.raw (.bool x))
abbrev rI (x : Int) : D := .raw (.int .i64 x)
abbrev rS (x : ByteArray) : D := .raw (.string x)
abbrev rB (x : Bool) : D := .raw (.bool x)
theorem gc (n : Nat) {orc : Orc} (horc : OrcOK P orc) {f : FuncId} {R : Ending → World → Prop} {k k' : List Item} (dec : List Bool) (ts : List Nat) {cs : List Prop} (hcs : Conds cs) (hsim : Sim C E s a w) (hn : ∀ E a w, Sim C E s' a w → Goes P f k' R a w) (hP : C.P = P := by rfl) (hG : C.gl = orc.gl := by rfl) (h : path P orc n k s dec ts = some (k', s', cs) := by kernel_rfl) (hag : lefts (run P orc n k s dec []).2 = rights (run P orc n k s dec []).2 := by kernel_rfl) : Goes P f k R a w := go_cut n horc hP hG dec ts h hag hcs hsim hn
theorem gh {orc : Orc} (horc : OrcOK P orc) {f : FuncId} {R : Ending → World → Prop} {k k' : List Item} (dec : List Bool) (ts : List Nat) {cs : List Prop} (hcs : Conds cs) (hsim : Sim C E s a w) (hn : ∀ E a w, Sim C E s' a w → Goes P f k' R a w) (hP : C.P = P := by rfl) (hG : C.gl = orc.gl := by rfl) (h : path P orc 4000 k s dec ts = some (k', s', cs) := by kernel_rfl) (hag : lefts (run P orc 4000 k s dec []).2 = rights (run P orc 4000 k s dec []).2 := by kernel_rfl) : Goes P f k R a w := go_cut 4000 horc hP hG dec ts h hag hcs hsim hn
theorem gs {orc : Orc} (horc : OrcOK P orc) {g : FuncId} {fn : Func} (hf : P.funcs[g]? = some fn) {k : List Item} {sr sr' : St} {cs : List Prop} (dec : List Bool) (rows : Bool) (hcs : Conds cs) (hr : Says C sr' sr) (hsim : Sim C E s a w) (hP : C.P = P := by rfl) (hG : C.gl = orc.gl := by rfl) (h : pathR P orc 4000 k s dec fn.results.toList rows = some (sr', cs) := by kernel_rfl) (hag : lefts (run P orc 4000 k s dec []).2 = rights (run P orc 4000 k s dec []).2 := by kernel_rfl) : Goes P g k (RSpec C sr) a w := go_says horc hP hG hf dec rows h hag hcs hr hsim
theorem gr {orc : Orc} (horc : OrcOK P orc) {g : FuncId} {fn : Func} (hf : P.funcs[g]? = some fn) {k : List Item} {sr sr' : St} {cs : List Prop} (dec : List Bool) (rows : Bool) (hcs : Conds cs) (hr : sr' = sr) (hsim : Sim C E s a w) (hP : C.P = P := by rfl) (hG : C.gl = orc.gl := by rfl) (h : pathR P orc 4000 k s dec fn.results.toList rows = some (sr', cs) := by kernel_rfl) (hag : lefts (run P orc 4000 k s dec []).2 = rights (run P orc 4000 k s dec []).2 := by kernel_rfl) : Goes P g k (RSpec C sr) a w := go_says horc hP hG hf dec rows h hag hcs (Says.of_eq hr) hsim
abbrev wI (x : Int) : Int := IntKind.i64.wrap x
abbrev eB : ByteArray := ByteArray.empty
abbrev eM : ByteArray := ByteArray.mk #[]
abbrev GoG (P : Program) (gl : Nat → Option (List D)) (f : FuncId) (k : List Item) (H : List (Nat × Th)) (e : St) (w0 : World) (N : Nat → Prop) (E0 : Env) (s : St) : Prop := ∀ (E : Env) (a : Act) (w : World), Sim (cx P gl w0 N E0 H) E s a w → Goes P f k (RSpec (cx P gl w0 N E0 H) e) a w
end Go.Eng

namespace Go.Eng
open Go Go.RowKit Go.Lib
variable {P : Program} {gl : Nat → Option (List D)} {C : Cx} {E E' : Env} {s s' : St} {a : Act} {w w' : World}
def setL {α : Type} (f : List (Nat × α)) (xs : List α) : List α := f.foldl (fun xs p => xs.set p.1 p.2) xs
def mk (base n : Nat) (ts : List (Nat × AV)) (hs : List (Nat × Th)) : St := { base := base, tmps := setL ts (List.replicate n .dead), heap := hs }
def loops : Code → List Item → List (List Item)
 | .seq x y, k => loops x (.code y :: k) ++ loops y k
 | .cond _ x y, k => loops x k ++ loops y k
 | .block id x, k => loops x (.inBlock id :: k)
 | .loop x, k => (.code x :: .inLoop x :: k) :: loops x (.inLoop x :: k)
 | _, _ => []
def regs : Code → List Item → List (List Item)
 | .seq x y, k => regs x (.code y :: k) ++ regs y k
 | .cond _ x y, k => regs x k ++ regs y k
 | .block id x, k => regs x (.inBlock id :: k)
 | .loop x, k => regs x (.inLoop x :: k)
 | .region id ops dr, k => [.code (.region id ops dr) :: k]
 | _, _ => []
def bodyOf (fn : Func) : Code := fn.body.getD .skip
def loopAt (fn : Func) (i : Nat) : List Item := (loops (bodyOf fn) []).getD i []
def regAt (fn : Func) (i : Nat) : List Item := ((regs (bodyOf fn) []).find? fun k => match k with
 | .code (.region j _ _) :: _ => j == i
 | _ => false).getD []
theorem spec_fn {g : FuncId} {fn : Func} {args : List AV} {H H' : List (Nat × Th)} {ret : AV} (hf : P.funcs[g]? = some fn) (hb : fn.body.isSome = true)
 (h : ∀ {w : World} {N : Nat → Prop} {E0 : Env} {a : Act}, Sim (cx P gl w N E0 H) E0 (initSt fn.ntmps args H) a w → Goes P g [.code (bodyOf fn)] (RSpec (cx P gl w N E0 H) ⟨H.length, [ret], H'⟩) a w) : Spec P gl g args H ret H' := spec_of hf hb h
structure SaysD (x y : D) : Prop where
 out : ∀ (w : World) (N : Nat → Prop) (v : Value), VD w N x v → VD w N y v
theorem SaysD.refl (x : D) : SaysD x x := ⟨fun _ _ _ h => h⟩
theorem SaysD.of_eq {x y : D} (h : x = y) : SaysD x y := h ▸ SaysD.refl x
theorem SaysD.list {sz n : Nat} {el el' : Nat → D} (he : ∀ i, i < n → el' i = el i) : SaysD (.list sz n el) (.list sz n el') := .mk fun w N v h => by
 have h' : VC w N (.list sz n el) [v] := h
 show VC w N (.list sz n el') [v]
 unfold VC at h' ⊢
 obtain ⟨u, hu, h'⟩ := h'
 refine ⟨u, hu, ?_⟩
 rcases h' with h1 | ⟨ad, cap, cs, h1, h2, h3, h4, h5, h6, h7, h8⟩
 · exact .inl h1
 · exact .inr ⟨ad, cap, cs, h1, h2, h3, h4, h5, h6, h7, fun i hi => by rw [he i hi]; exact h8 i hi⟩
theorem SaysD.nil (sz : Nat) (el : Nat → D) : SaysD (.raw (.slice none 0 0)) (.list sz 0 el) := .mk fun w N v h => by
 have h1 := (VD_raw_inv h).1
 subst h1
 show VC w N _ [_]
 unfold VC
 exact ⟨_, rfl, .inl ⟨rfl, rfl⟩⟩
inductive SaysL : List D → List D → Prop where
 | nil : SaysL [] []
 | cons {x y : D} {xs ys : List D} : SaysD x y → y.one = true → SaysL xs ys → SaysL (x :: xs) (y :: ys)
theorem VC_VD {N : Nat → Prop} {x : D} {v : Value} (h1 : x.one = true) : VC w N x [v] ↔ VD w N x v := by
 cases x with
 | agg xs => simp [D.one] at h1
 | raw u => exact Iff.rfl
 | list sz n el => exact Iff.rfl
theorem SaysL.vcs {N : Nat → Prop} : ∀ {xs ys : List D} {vs : List Value}, SaysL xs ys → VCs w N xs vs → VCs w N ys vs
 | _, _, _, .nil, h => h
 | _, _, _, .cons h1 h2 h3, h => by
  unfold VCs at h ⊢
  obtain ⟨v, vs', e, g1, g2, g3⟩ := h
  exact ⟨v, vs', e, h2, (VC_VD h2).2 (h1.out _ _ _ ((VC_VD g1).1 g2)), h3.vcs g3⟩
theorem SaysD.agg {xs ys : List D} (h : SaysL xs ys) : SaysD (.agg xs) (.agg ys) := .mk fun w N v hv => by
 obtain ⟨vs, h1, h2⟩ := hv
 refine ⟨vs, h1, ?_⟩
 unfold VC at h2 ⊢
 exact h.vcs h2
theorem SaysL.refl : ∀ {xs : List D}, xs.all D.one = true → SaysL xs xs
 | [], _ => .nil
 | x :: xs, h => by
  simp only [List.all_cons, Bool.and_eq_true] at h
  exact .cons (.refl x) h.1 (.refl h.2)
def Orc.none (gl : Nat → Option (List D)) : Orc := ⟨gl, fun _ => false, fun _ _ _ => Option.none⟩
def Orc.add (o : Orc) (k : Nat) (rows : Bool) (m : List AV → List (Nat × Th) → Option (AV × List (Nat × Th) × List Prop)) : Orc :=
 ⟨o.gl, fun f => if f == k then rows else o.lists f, fun f args H => if f == k then m args H else o.fn f args H⟩
theorem OrcOK.none (gl : Nat → Option (List D)) : OrcOK P (Orc.none gl) := fun _ _ _ _ _ _ h => by cases h
theorem OrcOK.add {o : Orc} (ho : OrcOK P o) (k : Nat) (rows : Bool) (m : List AV → List (Nat × Th) → Option (AV × List (Nat × Th) × List Prop))
  (h : ∀ args H r H' cs, m args H = some (r, H', cs) → Conds cs → Spec P o.gl k args H r H') : OrcOK P (o.add k rows m) := by
 intro f args H r H' cs hf hcs
 unfold Orc.add at hf
 simp only at hf
 split at hf
 ·
  rename_i e
  have e : f = k := by simpa using e
  subst e; exact h args H r H' cs hf hcs
 · exact ho f args H r H' cs hf hcs
theorem Spec.args {g : FuncId} {args args' : List AV} {H H' : List (Nat × Th)} {ret : AV} (h : Spec P gl g args' H ret H') (hA : ∀ {E : Env} {w : World} {N : Nat → Prop} {vs : List Value}, VAs E w N args vs → VAs E w N args' vs) : Spec P gl g args H ret H' :=
 fun w N E vs hf hv => h w N E vs hf (hA hv)
class Cd (α : Type) where
 sz : Nat
 enc : α → D
 un : D → α
open Cd (enc un)
def Is (α : Type) [Cd α] (x : D) : Prop := SaysD x (enc (un x : α))
instance : Cd Int := ⟨1, fun n => .raw (.int .i64 n), fun d => unI d⟩
instance : Cd Bool := ⟨1, fun b => .raw (.bool b), fun d => unB d⟩
instance : Cd ByteArray := ⟨1, fun b => .raw (.string b), fun d => unS d⟩
def unL {α : Type} (f : D → α) (n : Nat) (el : Nat → D) : List α := (List.range n).map fun i => f (el i)
def L {α : Type} [Inhabited α] (sz : Nat) (f : α → D) (xs : List α) : D := .list sz xs.length fun i => f (xs.getD i default)
instance {α : Type} [Cd α] [Inhabited α] : Cd (List α) := ⟨1, L (Cd.sz α) enc, fun d => match d with
 | .list _ n el => unL un n el
 | _ => []⟩
theorem Is.list {α : Type} [Cd α] [Inhabited α] {n : Nat} {el : Nat → D} (h : ∀ i, i < n → el i = enc (un (el i) : α)) : Is (List α) (.list (Cd.sz α) n el) := by
 unfold Is
 show SaysD (.list (Cd.sz α) n el) (L (Cd.sz α) enc (unL un n el))
 unfold L
 have hl : (unL un n el : List α).length = n := by simp [unL]
 rw [hl]
 refine SaysD.list fun i hi => ?_
 have e : (unL un n el : List α).getD i default = un (el i) := by simp [unL, hi]
 rw [e]; exact (h i hi).symm
theorem Is.nil {α : Type} [Cd α] [Inhabited α] : Is (List α) (.raw (.slice none 0 0)) := SaysD.nil _ _
theorem Is.L {α : Type} [Cd α] [Inhabited α] (h : ∀ x : α, un (enc x) = x) (xs : List α) : Is (List α) (Eng.L (Cd.sz α) enc xs) := Is.list fun i _ => by rw [h]
theorem VAs_cons {N : Nat → Prop} {x : AV} {xs : List AV} {vs : List Value} : VAs E w N (x :: xs) vs ↔ ∃ v vs', vs = v :: vs' ∧ VA E w N x v ∧ VAs E w N xs vs' := by
 constructor
 · intro h; unfold VAs at h; exact h
 · intro h; unfold VAs; exact h
theorem VAs_imp_cons {N : Nat → Prop} {x y : AV} {xs ys : List AV} {vs : List Value} (h : ∀ v, VA E w N x v → VA E w N y v) (hs : ∀ vs, VAs E w N xs vs → VAs E w N ys vs) (hv : VAs E w N (x :: xs) vs) : VAs E w N (y :: ys) vs := by
 rw [VAs_cons] at hv ⊢
 obtain ⟨v, vs', e, h1, h2⟩ := hv
 exact ⟨v, vs', e, h v h1, hs vs' h2⟩
theorem Says.th {k : Nat} {t t' : Th} (hk : s.th k = some t) (h : ∀ {E : Env} {w : World} {N : Nat → Prop} {v : Value}, ThOK C.P E w N t v → ThOK C.P E w N t' v) : Says C s (s.setTh k t') := .mk fun E a w hs => by
 have st : Step C E E s (s.setTh k t') w w _ _ _ := Step.set' k t hk t' rfl rfl rfl (Nat.le_refl _) (fun _ _ _ => rfl)
 have hN : ∀ b, Stable C E s w b → Stable C E (s.setTh k t') w b := st.stable
 refine ⟨E, hs.fit.step st (fun x v hx => VA.mono hN (fun _ _ _ h => h) hx) (fun i t1 hi h1 => ?_), VAs.mono hN (fun _ _ _ h => h) hs.tm, hs.df⟩
 have e : i = k := by simpa [eqk] using hi
 subst e
 rw [St.setTh_th, if_pos rfl] at h1
 cases h1
 have h2 := (hs.fit.th i t hk).1
 have h3 : ThOK C.P E w (Stable C E (s.setTh i t') w) t (E i) := by
  have := h2.kept (f := fun x => x) hN (fun _ _ _ h => h) (fun _ _ => rfl) (fun x u hx => VA.mono hN (fun _ _ _ h => h) hx)
  rwa [Th.map_id] at this
 exact h h3
end Go.Eng

namespace Go.Eng
open Go Go.RowKit Go.Lib
variable {P : Program} {gl : Nat → Option (List D)} {C : Cx} {E E' : Env} {s s' : St} {a : Act} {w w' : World}
abbrev Ix (a b : Int) : Prop := (0 : Int) ≤ a ∧ a < b
abbrev Nz (a : Int) : Prop := a ≠ (0 : Int)
abbrev Nn (a : Int) : Prop := (0 : Int) ≤ a
theorem Sim.dats (h : Sim C E s a w) : Sim C E { s with tmps := s.tmps.map AV.dat } a w :=
 ⟨h.fit.tmps _, VAs.map _ h.tm fun _ _ hx => AV.dat_VA hx, h.df⟩
theorem Sim.rowEq (h : Sim C E s a w) {k T sz n : Nat} {el : Nat → D} (hk : s.th k = some (.row T sz n el)) (el' : Nat → D) (he : ∀ i, i < n → el i = el' i) : ∃ E', Sim C E' (s.setTh k (.row T sz n el')) a w :=
 (Says.th (C := C) hk fun {E w N v} ht => by
  obtain ⟨vs, h1, h2⟩ := ht
  exact ⟨vs, h1, fun i hi => by rw [← he i hi]; exact h2 i hi⟩).out E a w h
theorem Says.rowEq {k T sz n : Nat} {el : Nat → D} (hk : s.th k = some (.row T sz n el)) (el' : Nat → D) (he : ∀ i, i < n → el i = el' i) : Says C s (s.setTh k (.row T sz n el')) :=
 Says.th (C := C) hk fun {E w N v} ht => by
  obtain ⟨vs, h1, h2⟩ := ht
  exact ⟨vs, h1, fun i hi => by rw [← he i hi]; exact h2 i hi⟩
theorem Says.tmp {b : Nat} {x y : D} {H : List (Nat × Th)} (h : SaysD x y) : Says C ⟨b, [.d x], H⟩ ⟨b, [.d y], H⟩ := ⟨fun E a w hs => ⟨E, hs.fit.tmps _, by
 have h1 := hs.tm
 show VAs E w (Stable C E ⟨b, [.d x], H⟩ w) [.d y] a.tmps.toList
 change VAs E w (Stable C E ⟨b, [.d x], H⟩ w) [.d x] a.tmps.toList at h1
 rw [VAs_cons] at h1 ⊢
 obtain ⟨v, vs, e, h2, h3⟩ := h1
 refine ⟨v, vs, e, ?_, h3⟩
 unfold VA at h2 ⊢; exact h.out _ _ _ h2, hs.df⟩⟩
theorem cx_congr {H H1 : List (Nat × Th)} {w : World} {N : Nat → Prop} {E : Env} (hl : H.length = H1.length) (hk : ∀ k, (look H k).isSome = (look H1 k).isSome) : cx P gl w N E H = cx P gl w N E H1 := by
 have hO : (fun b => ∃ k t, look H k = some t ∧ blk (E k) = some b) = (fun b => ∃ k t, look H1 k = some t ∧ blk (E k) = some b) := by
  funext b
  refine propext ⟨?_, ?_⟩
  ·
   rintro ⟨k, t, h1, h2⟩
   obtain ⟨u, hu⟩ := Option.isSome_iff_exists.1 ((hk k).symm.trans (by rw [h1]; rfl))
   exact ⟨k, u, hu, h2⟩
  ·
   rintro ⟨k, t, h1, h2⟩
   obtain ⟨u, hu⟩ := Option.isSome_iff_exists.1 ((hk k).trans (by rw [h1]; rfl))
   exact ⟨k, u, hu, h2⟩
 unfold cx
 rw [hl, hO]
theorem Spec.hand {g : FuncId} {args : List AV} {H H1 : List (Nat × Th)} {ret : AV} {H' : List (Nat × Th)} (h : Spec P gl g args H1 ret H') (hl : H.length = H1.length) (hk : ∀ k, (look H k).isSome = (look H1 k).isSome)
  (ht : ∀ k t0 t, look H k = some t0 → look H1 k = some t → ∀ {E : Env} {w : World} {N : Nat → Prop} {v : Value}, ThOK P E w N t0 v → ThOK P E w N t v) : Spec P gl g args H ret H' := by
 intro w N E vs hf hv
 have e := cx_congr (P := P) (gl := gl) (w := w) (N := N) (E := E) hl hk
 have key : ∀ k t, look H1 k = some t → ∃ t0, look H k = some t0 := fun k t h1 => Option.isSome_iff_exists.1 ((hk k).trans (by rw [h1]; rfl))
 have key' : ∀ k t, look H k = some t → ∃ t0, look H1 k = some t0 := fun k t h1 => Option.isSome_iff_exists.1 ((hk k).symm.trans (by rw [h1]; rfl))
 have hS : ∀ b, Stable (cx P gl w N E H1) E ⟨H.length, [], H⟩ w b → Stable (cx P gl w N E H1) E ⟨H1.length, [], H1⟩ w b := fun b hb => ⟨hb.1, hb.2.1, fun ⟨k, t, h1, h2⟩ => by
  obtain ⟨t0, h3⟩ := key k t h1
  exact hb.2.2 ⟨k, t0, h3, h2⟩⟩
 have hfit : Fit (cx P gl w N E H1) E ⟨H1.length, [], H1⟩ w := by
  rw [e] at hf
  refine ⟨rfl, hf.low, hf.keep, hf.keys, fun k t h1 => ?_, fun k k' t t' h1 h2 hne => ?_, hf.gl⟩
  ·
   obtain ⟨t0, h3⟩ := key k t h1
   have h4 := hf.th k t0 h3
   refine ⟨?_, h4.2⟩
   have h5 := h4.1.kept (f := fun x => x) hS (fun _ _ _ h => h) (fun _ _ => rfl) (fun x u hx => VA.mono hS (fun _ _ _ h => h) hx)
   rw [Th.map_id] at h5
   exact ht k t0 t h3 h1 h5
  ·
   obtain ⟨t0, h3⟩ := key k t h1
   obtain ⟨t0', h4⟩ := key k' t' h2
   exact hf.dis k k' t0 t0' h3 h4 hne
 have hv' := hv
 rw [e] at hv'
 have := h w N E vs hfit (VAs.mono hS (fun _ _ _ h => h) hv')
 rw [e, hl]; exact this
theorem ThOK.rowEq {E : Env} {w : World} {N : Nat → Prop} {T sz n : Nat} {el el' : Nat → D} {v : Value} (he : ∀ i, i < n → el i = el' i) (h : ThOK P E w N (.row T sz n el) v) : ThOK P E w N (.row T sz n el') v := by
 obtain ⟨vs, h1, h2⟩ := h
 exact ⟨vs, h1, fun i hi => by rw [← he i hi]; exact h2 i hi⟩
theorem Spec.rowArg {g : FuncId} {args : List AV} {T sz n : Nat} {el el' : Nat → D} {ret : AV} {H' : List (Nat × Th)} (h : Spec P gl g args [(0, .row T sz n el')] ret H') (he : ∀ i, i < n → el i = el' i) : Spec P gl g args [(0, .row T sz n el)] ret H' :=
 h.hand rfl (fun k => by simp only [look]; split <;> rfl) fun k t0 t h1 h2 => by
  simp only [look] at h1 h2
  split at h1
  · rename_i e; rw [if_pos e] at h2; cases h1; cases h2; exact ThOK.rowEq he
  · cases h1
theorem Sim.nilRow (h : Sim C E s a w) {t : Nat} (ht : s.tmps[t]? = some (.d (.raw (.slice none 0 0)))) (T sz : Nat) (el : Nat → D) :
  ∃ E', Sim C E' { s.newTh none s.fresh (.row T sz 0 el) with tmps := (s.newTh none s.fresh (.row T sz 0 el)).tmps.set t (.own s.fresh) } a w := by
 obtain ⟨h1, h2, h3, h4⟩ := h.fit.newTh (w' := w) none s.fresh (fresh_base s) (.row T sz 0 el) (.slice none 0 0) rfl rfl rfl (Nat.le_refl _) (fun _ _ _ => rfl) (fun b hb => by cases hb)
  (fun {E' N'} _ _ _ _ => ⟨[], ⟨by simp, .inl ⟨rfl, rfl⟩⟩, fun i hi => absurd hi (by omega)⟩)
 have h5 : Sim C (E.set s.fresh (.slice none 0 0)) (s.newTh none s.fresh (.row T sz 0 el)) a w := ⟨h1, h.newTh_tm h4, h.df⟩
 obtain ⟨v, h6, h7⟩ := h.tm.get t _ ht
 unfold VA at h7
 have hv := (VD_raw_inv h7).1
 subst hv
 exact ⟨_, h5.retell (by rw [← Array.getElem?_toList]; exact h6) (by unfold VA; exact ⟨by simp [Env.set], none, 0, 0, rfl⟩)⟩
theorem size_ba (b : ByteArray) : b.size = b.data.toList.length := (Array.length_toList (xs := b.data)).symm
theorem toList_ba (b : ByteArray) : b.toList = b.data.toList := by
 have key : ∀ (n i : Nat) (r : List UInt8), b.size - i = n → ByteArray.toList.loop b i r = r.reverse ++ b.data.toList.drop i := by
  intro n
  induction n with
  | zero =>
   intro i r h
   unfold ByteArray.toList.loop
   have hs : b.size = b.data.toList.length := size_ba b
   rw [if_neg (by omega), List.drop_eq_nil_of_le (by omega), List.append_nil]
  | succ n ih =>
   intro i r h
   unfold ByteArray.toList.loop
   have hs : b.size = b.data.toList.length := size_ba b
   rw [if_pos (by omega), ih (i + 1) _ (by omega)]
   rw [List.drop_eq_getElem_cons (by omega : i < b.data.toList.length)]
   simp only [List.reverse_cons, List.append_assoc, List.cons_append, List.nil_append]
   congr 2
   have hi : i < b.data.size := by rw [← Array.length_toList]; omega
   show b.data[i]! = _
   rw [getElem!_pos b.data i hi, Array.getElem_toList]
 have := key b.size 0 [] (by simp)
 simpa [ByteArray.toList] using this
theorem extract_ba (b : ByteArray) (i j : Nat) : (b.extract i j).data.toList = (b.data.toList.drop i).take (j - i) := by
 rw [ByteArray.data_extract, Array.toList_extract, List.extract_eq_take_drop]
theorem append_ba (a b : ByteArray) : (a ++ b).data.toList = a.data.toList ++ b.data.toList := by
 simp [ByteArray.data_append]
theorem ext_ba {a b : ByteArray} (h : a.data.toList = b.data.toList) : a = b := by
 cases a; cases b; simp only [ByteArray.mk.injEq]; exact Array.toList_inj.1 h
theorem empty_ba : ByteArray.empty.data.toList = [] := rfl
theorem beq_empty (b : ByteArray) : (b.toList == ByteArray.empty.toList) = (b.size == 0) := by
 rw [toList_ba, toList_ba, size_ba, empty_ba]
 cases b.data.toList <;> rfl
theorem beq_ba (a b : ByteArray) : (a.toList == b.toList) = decide (a = b) := by
 rw [toList_ba, toList_ba]
 by_cases h : a = b
 · subst h; simp
 ·
  have : a.data.toList ≠ b.data.toList := fun e => h (ext_ba e)
  rw [decide_eq_false h]; exact beq_eq_false_iff_ne.2 this
theorem byteAt_lt (b : ByteArray) (i : Nat) : 0 ≤ byteAt b i ∧ byteAt b i < 256 := by
 unfold byteAt
 have := (b.data.toList.getD i 0).toNat_lt
 omega
theorem byteAt_out (b : ByteArray) (i : Nat) (h : b.size ≤ i) : byteAt b i = 0 := by
 unfold byteAt
 rw [List.getD_eq_getElem?_getD, List.getElem?_eq_none (by rw [← size_ba]; exact h)]; rfl
theorem Spec.glAny {g : FuncId} {args : List AV} {H : List (Nat × Th)} {ret : AV} {H' : List (Nat × Th)} (h : Spec P (fun _ => none) g args H ret H') : Spec P gl g args H ret H' := by
 intro w N E vs hf hv
 refine (h w N E vs ⟨hf.base, hf.low, hf.keep, hf.keys, hf.th, hf.dis, fun g cs h => by cases h⟩ hv).mono ?_
 rintro e w' ⟨v, E', rfl, h1, h2⟩
 exact ⟨v, E', rfl, ⟨h1.base, h1.low, h1.keep, h1.keys, h1.th, h1.dis, hf.gl⟩, h2⟩
end Go.Eng
