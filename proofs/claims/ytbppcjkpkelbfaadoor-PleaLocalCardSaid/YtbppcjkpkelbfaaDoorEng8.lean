/-
  Part of the engine: abstract states of a call, and that the operations do what is told of them. No condition.
-/
import Derived.Test.YtbppcjkpkelbfaaDoorEng6
namespace Go.Eng
open Go Go.RowKit
variable {P : Program} {gl : Nat → Option (List D)} {C : Cx} {E E' : Env} {s s' : St} {a : Act} {w w' : World}
def stepExtract (x : AV) (i : Nat) : Option AV :=
 match x with
 | .tup xs => xs[i]?
 | _ => none
theorem stepExtract_ok {o : Oper} {x : Operand} {i : Nat} {y : AV} (ho : o.op = .extract x i) (h : stepExtract (s.ev x) i = some y) : LightOK P gl [] o y s := by
 constructor
 intro C E a w hP hG hsim
 have hx := hsim.ev x
 unfold stepExtract at h
 split at h
 ·
  rename_i xs hxe
  rw [hxe] at hx
  unfold VA at hx
  obtain ⟨vs, h1, h2⟩ := hx
  obtain ⟨v, hv, h3⟩ := h2.get i y h
  refine ⟨v, fun w' _ => ?_, h3⟩
  simp [execOp, ho, Instr.extract, h1, hv]
 · cases h
theorem VAs_map_ev (hsim : Sim C E s a w) : ∀ (xs : List Operand), VAs E w (Stable C E s w) (xs.map s.ev) (xs.map a.eval)
 | [] => by simp only [List.map_nil]; unfold VAs; rfl
 | x :: xs => by
  simp only [List.map_cons]
  unfold VAs
  exact ⟨_, _, rfl, hsim.ev x, VAs_map_ev hsim xs⟩
theorem stepMakeFunc_ok {o : Oper} {f : Fn} {p q : Array Operand} (ho : o.op = .makeFunc f p q) : LightOK P gl [] o (.fn f (p.toList.map s.ev) (q.toList.map s.ev)) s := by
 constructor
 intro C E a w hP hG hsim
 have hm : ∀ z : Array Operand, z.map a.eval = (z.toList.map a.eval).toArray := fun z => by rw [← Array.toList_map, Array.toArray_toList]
 refine ⟨.func f (p.map a.eval) (q.map a.eval), fun w' _ => by simp [execOp, ho, Instr.makeFunc], ?_⟩
 unfold VA
 exact ⟨p.toList.map a.eval, q.toList.map a.eval, by rw [hm p, hm q], VAs_map_ev hsim _, VAs_map_ev hsim _⟩
def isNilP : AV → Bool
 | .d (.raw (.pointer none)) => true
 | _ => false
def isPtr : AV → Bool
 | .ref .. | .refI .. | .el .. | .cptr _ => true
 | _ => false
theorem isPtr_val {N : Nat → Prop} {x : AV} {v : Value} (h : isPtr x = true) (hx : VA E w N x v) : ∃ ad, v = .pointer (some ad) := by
 cases x <;> simp only [isPtr, Bool.false_eq_true] at h <;> unfold VA at hx
 case ref => obtain ⟨b, _, rfl⟩ := hx; exact ⟨_, rfl⟩
 case refI => obtain ⟨b, _, rfl⟩ := hx; exact ⟨_, rfl⟩
 case el => obtain ⟨_, _, _, _, rfl⟩ := hx; exact ⟨_, rfl⟩
 case cptr => obtain ⟨_, _, rfl, _⟩ := hx; exact ⟨_, rfl⟩
def stepBin (P : Program) (op : BinOp) (t : TypeId) (x y : AV) : Option (AV × List Prop) :=
 if isPtr x && isNilP y then
  match P.underlying t, op with
  | some (.pointer _), .eql => some (.known false, [])
  | some (.pointer _), .neq => some (.known true, [])
  | _, _ => none
 else match x, y with
 | .d (.raw u), .d (.raw v) => (binRaw P op t u v).map fun r => (.d (.raw r.1), r.2)
 | .d (.agg xs), .d (.agg ys) => (binAgg P op t xs ys).map fun b => (.d (.raw (.bool b)), [])
 | _, _ => none
theorem binInt_one {op : BinOp} {k : IntKind} {x y : Int} {v : Value} {cs : List Prop} (h : binInt op k x y = some (v, cs)) : v.oneCell' = true := by
 unfold binInt at h; cases op <;> simp only [Option.some.injEq, Prod.mk.injEq, reduceCtorEq] at h <;> obtain ⟨rfl, _⟩ := h <;> rfl
theorem binRaw_run {op : BinOp} {t : TypeId} {u v r : Value} {cs : List Prop} (h : binRaw P op t u v = some (r, cs)) (hc : Conds cs) (p q : Operand) :
  (eqGuard op t p q u v).run P w = .ok () w ∧ (binOp op t u v).run P w = .ok r w ∧ r.oneCell' = true := by
 unfold binRaw at h
 split at h
 ·
  rename_i k x k' y
  have hg : (eqGuard op t p q (.int k x) (.int k' y)).run P w = .ok () w := by cases op <;> simp [eqGuard]
  have hsh : ∀ op, shiftInt op k x y = some (r, cs) → (binOp op t (.int k x) (.int k' y)).run P w = .ok r w ∧ r.oneCell' = true := fun op h => ⟨shiftInt_run t h hc, by
   unfold shiftInt at h; cases op <;> simp only [Option.some.injEq, Prod.mk.injEq, reduceCtorEq] at h <;> obtain ⟨rfl, _⟩ := h <;> rfl⟩
  have hin : ∀ op, (if k = k' then binInt op k x y else none) = some (r, cs) → (binOp op t (.int k x) (.int k' y)).run P w = .ok r w ∧ r.oneCell' = true := fun op h' => by
   by_cases e : k = k'
   · rw [if_pos e] at h'; subst e; exact ⟨binInt_run t h' hc, binInt_one h'⟩
   · rw [if_neg e] at h'; cases h'
  have : (binOp op t (.int k x) (.int k' y)).run P w = .ok r w ∧ r.oneCell' = true := by
   cases op <;> first | exact hsh _ h | exact hin _ h
  exact ⟨hg, this⟩
 ·
  rename_i x y
  have hg : (eqGuard op t p q (.string x) (.string y)).run P w = .ok () w := by cases op <;> simp [eqGuard]
  refine ⟨hg, binStr_run t h hc, ?_⟩
  · unfold binStr at h; cases op <;> simp only [Option.some.injEq, Prod.mk.injEq, reduceCtorEq] at h <;> obtain ⟨rfl, _⟩ := h <;> rfl
 ·
  rename_i hn1 hn2
  split at h
  ·
   obtain ⟨b, hb, h⟩ := Option.map_eq_some_iff.1 h
   simp only [Prod.mk.injEq] at h
   obtain ⟨rfl, rfl⟩ := h
   have hg := eqRaw_guard (P := P) (w := w) hb .eql t p q
   have he := eqRaw_run (P := P) (w := w) hb
   have hbin : (binOp .eql t u v) = (do pure (.bool (← Op.equal t u v))) := by
    unfold eqRaw at hb
    split at hb <;> first | rfl | simp at hb
   exact ⟨hg, by simp [hbin, he], rfl⟩
  ·
   obtain ⟨b, hb, h⟩ := Option.map_eq_some_iff.1 h
   simp only [Prod.mk.injEq] at h
   obtain ⟨rfl, rfl⟩ := h
   have hg := eqRaw_guard (P := P) (w := w) hb .neq t p q
   have he := eqRaw_run (P := P) (w := w) hb
   have hbin : (binOp .neq t u v) = (do pure (.bool (!(← Op.equal t u v)))) := by
    unfold eqRaw at hb
    split at hb <;> first | rfl | simp at hb
   exact ⟨hg, by simp [hbin, he], rfl⟩
  · cases h
theorem stepBin_ok {o : Oper} {op : BinOp} {t ty : TypeId} {x y : Operand} {z : AV} {cs : List Prop} (ho : o.op = .binOp op t x y ty) (h : stepBin P op t (s.evd x) (s.evd y) = some (z, cs)) (hc : Conds cs) : LightOK P gl [] o z s := by
 constructor
 intro C E a w hP hG hsim
 have hx := hsim.evd x
 have hy := hsim.evd y
 unfold stepBin at h
 split at h
 ·
  rename_i hpn
  simp only [Bool.and_eq_true] at hpn
  obtain ⟨ad, hx⟩ := isPtr_val hpn.1 hx
  have hy : a.eval y = .pointer none := by
   cases hye : s.evd y <;> rw [hye] at hpn hy <;> (try simp only [isNilP, Bool.false_eq_true, and_false] at hpn)
   rename_i d
   cases d <;> (try simp only [isNilP, Bool.false_eq_true, and_false] at hpn)
   rename_i v
   unfold VA at hy
   have hv := (VD_raw_inv hy).1
   cases v <;> (try simp only [isNilP, Bool.false_eq_true, and_false] at hpn)
   rename_i q
   cases q <;> (try simp only [isNilP, Bool.false_eq_true, and_false] at hpn)
   exact hv
  split at h
  ·
   rename_i e hp
   simp only [Option.some.injEq, Prod.mk.injEq] at h
   obtain ⟨rfl, rfl⟩ := h
   refine ⟨.bool false, fun w' _ => ?_, by unfold VA; rfl⟩
   have he : (Op.equal t (.pointer (some ad)) (.pointer none)).run P w' = .ok false w' := by
    show Sem.run P (Op.equalIn (9999 + 1) t _ _) w' = _
    rw [Op.equalIn]; simp [run_underlying hp]
   simp [execOp, ho, hx, hy, eqGuard, binOp, he]
  ·
   rename_i e hp
   simp only [Option.some.injEq, Prod.mk.injEq] at h
   obtain ⟨rfl, rfl⟩ := h
   refine ⟨.bool true, fun w' _ => ?_, by unfold VA; rfl⟩
   have he : (Op.equal t (.pointer (some ad)) (.pointer none)).run P w' = .ok false w' := by
    show Sem.run P (Op.equalIn (9999 + 1) t _ _) w' = _
    rw [Op.equalIn]; simp [run_underlying hp]
   simp [execOp, ho, hx, hy, eqGuard, binOp, he]
  · cases h
 ·
  split at h
  ·
   rename_i u v hu hv
   rw [hu] at hx; rw [hv] at hy
   unfold VA at hx hy
   have hx := (VD_raw_inv hx).1
   have hy := (VD_raw_inv hy).1
   obtain ⟨⟨r, cs'⟩, hr, h⟩ := Option.map_eq_some_iff.1 h
   simp only [Prod.mk.injEq] at h
   obtain ⟨rfl, rfl⟩ := h
   obtain ⟨_, _, h3⟩ := binRaw_run (P := P) (w := w) hr hc x y
   refine ⟨r, fun w' _ => ?_, by unfold VA; exact VD_raw h3⟩
   obtain ⟨h1, h2, _⟩ := binRaw_run (P := P) (w := w') hr hc x y
   simp [execOp, ho, hx, hy, h1, h2]
  ·
   rename_i xs ys hu hv
   rw [hu] at hx; rw [hv] at hy
   unfold VA at hx hy
   obtain ⟨b, hb, h⟩ := Option.map_eq_some_iff.1 h
   simp only [Prod.mk.injEq] at h
   obtain ⟨rfl, rfl⟩ := h
   obtain ⟨us, hx1, hx2⟩ := hx
   obtain ⟨vs, hy1, hy2⟩ := hy
   unfold VC at hx2 hy2
   refine ⟨.bool b, fun w' _ => ?_, by unfold VA; exact VD_raw rfl⟩
   obtain ⟨h1, h2⟩ := binAgg_run hb (us := us.toArray) (vs := vs.toArray) (by simpa using hx2) (by simpa using hy2) x y w'
   simp [execOp, ho, hx1, hy1, h1, h2]
  · cases h
def stepUn (op : UnOp) (x : AV) : Option AV :=
 match op, x with
 | .not, .d (.raw (.bool b)) => some (.d (.raw (.bool !b)))
 | .neg, .d (.raw (.int k n)) => some (.d (.raw (.int k (k.wrap (0 - n)))))
 | .xor, .d (.raw (.int k n)) => some (.d (.raw (.int k (k.wrap ((BitVec.ofInt k.bits (if k.signed then -1 else k.max) ^^^ BitVec.ofInt k.bits n).toNat)))))
 | _, _ => none
theorem stepUn_ok {o : Oper} {op : UnOp} {t : TypeId} {x : Operand} {z : AV} (ho : o.op = .unOp op t x) (h : stepUn op (s.evd x) = some z) : LightOK P gl [] o z s := by
 constructor
 intro C E a w hP hG hsim
 have hx := hsim.evd x
 unfold stepUn at h
 split at h
 ·
  rename_i b he
  rw [he] at hx; unfold VA at hx
  have hx := (VD_raw_inv hx).1
  cases h
  exact ⟨.bool !b, fun w' _ => by simp [execOp, ho, hx, Op.unary], by unfold VA; exact VD_raw rfl⟩
 ·
  rename_i k n he
  rw [he] at hx; unfold VA at hx
  have hx := (VD_raw_inv hx).1
  cases h
  exact ⟨.int k (k.wrap (0 - n)), fun w' _ => by simp [execOp, ho, hx, Op.unary, Op.intArith], by unfold VA; exact VD_raw rfl⟩
 ·
  rename_i k n he
  rw [he] at hx; unfold VA at hx
  have hx := (VD_raw_inv hx).1
  cases h
  exact ⟨_, fun w' _ => by simp only [execOp, ho, hx, Op.unary, Op.intBits]; rfl, by unfold VA; exact VD_raw rfl⟩
 · cases h
theorem stepNilCheck_ok {o : Oper} {x : Operand} (ho : o.op = .nilCheck x) (h : isPtr (s.ev x) = true) : LightOK P gl [] o (s.ev x) s := by
 constructor
 intro C E a w hP hG hsim
 have hx := hsim.ev x
 obtain ⟨ad, hv⟩ := isPtr_val h hx
 exact ⟨a.eval x, fun w' _ => by simp [execOp, ho, hv], hx⟩
theorem partA_run {N : Nat → Prop} {t : TypeId} {cells : List AV} {vs : List Value} {off : Nat} {x : AV} (h : loadCellsAV P t cells off = some x) (hc : VAs E w N cells vs) : ∃ v, (∀ w', (part t vs.toArray off).run P w' = .ok v w') ∧ VA E w N x v := by
 unfold loadCellsAV at h
 split at h
 ·
  rename_i i hu hi
  split at h
  ·
   rename_i hl
   refine ⟨.agg ((vs.drop off).take i.size).toArray, fun w' => ?_, aggOf_VA h ((hc.drop off).take i.size)⟩
   have ext : vs.toArray.extract off (off + i.size) = ((vs.drop off).take i.size).toArray := by
    apply Array.ext'
    rw [Array.toList_extract]
    simp [List.extract]
   unfold isAggT at hu
   obtain ⟨d, hd, hd'⟩ := Option.map_eq_some_iff.1 hu
   cases d <;> simp at hd' <;> (simp [part, isAgg, run_underlying hd, sizeOf, typeInfo, program, hi, Sem.run]; try (simpa using ext))
  · cases h
 ·
  rename_i i hu hi
  obtain ⟨v, hv1, hv2⟩ := hc.get off x h
  refine ⟨v, fun w' => ?_, hv2⟩
  unfold isAggT at hu
  obtain ⟨d, hd, hd'⟩ := Option.map_eq_some_iff.1 hu
  cases d <;> simp at hd' <;> simp [part, isAgg, run_underlying hd, hv1]
 · cases h
def AV.cellsA : AV → Option (List AV)
 | .d (.agg xs) => some (xs.map .d)
 | .agg xs => some xs
 | _ => none
theorem cellsA_ok {N : Nat → Prop} {x : AV} {cs : List AV} {v : Value} (h : x.cellsA = some cs) (hx : VA E w N x v) : ∃ vs : List Value, v = .agg vs.toArray ∧ VAs E w N cs vs := by
 unfold AV.cellsA at h
 split at h
 ·
  cases h
  unfold VA at hx
  obtain ⟨vs, h1, h2⟩ := hx
  unfold VC at h2
  exact ⟨vs, h1, VAs_of_VCs h2⟩
 ·
  cases h
  unfold VA at hx
  obtain ⟨vs, h1, h2, _⟩ := hx
  exact ⟨vs, h1, h2⟩
 · cases h
def stepField (P : Program) (t : TypeId) (x : AV) (f : Nat) : Option AV :=
 match P.underlying t, x.cellsA with
 | some (.struct fs), some cs => match fs[f]? with
  | some fd => loadCellsAV P fd.type cs fd.offset
  | none => none
 | _, _ => none
theorem stepField_ok {o : Oper} {t : TypeId} {x : Operand} {f : Nat} {y : AV} (ho : o.op = .field t x f) (h : stepField P t (s.ev x) f = some y) : LightOK P gl [] o y s := by
 constructor
 intro C E a w hP hG hsim
 unfold stepField at h
 split at h
 ·
  rename_i fs cs hu hcs
  split at h
  ·
   rename_i fd hfd
   obtain ⟨vs, h1, h2⟩ := cellsA_ok hcs (hsim.ev x)
   obtain ⟨v, h3, h4⟩ := partA_run h h2
   exact ⟨v, fun w' _ => by simp [execOp, ho, Instr.field, run_underlying hu, hfd, h1, asAgg, h3 w'], h4⟩
  · cases h
 · cases h
def byteAt (b : ByteArray) (i : Nat) : Int := (b.data.toList.getD i 0).toNat
def stepIndex (P : Program) (con : Bool) (t : TypeId) (x ix : AV) : Option (AV × List Prop) :=
 match ix with
 | .d (.raw (.int _ i)) =>
  match P.underlying t, x with
  | some .string, .d (.raw (.string b)) => some (.d (.raw (.int .u8 (byteAt b i.toNat))), [0 ≤ i ∧ i < b.size])
  | some (.array n e), x =>
   match P.info? e, x.cellsA with
   | some inf, some cs => if con then (loadCellsAV P e cs (i.toNat * inf.size)).map fun y => (y, [0 ≤ i ∧ i < n]) else
    match toDs cs with
    | some ds => if inf.size = 1 ∧ ds.length = n ∧ isAggT P e = some false then match sel1 i.toNat ds with
     | some d => if d.one then some (.d d, [0 ≤ i ∧ i < n]) else none
     | none => none
     else none
    | none => none
   | _, _ => none
  | _, _ => none
 | _ => none
theorem stepIndex_ok {o : Oper} {con : Bool} {t : TypeId} {x ix : Operand} {y : AV} {cs : List Prop} (ho : o.op = .index t x ix) (h : stepIndex P con t (s.ev x) (s.ev ix) = some (y, cs)) (hcs : Conds cs) : LightOK P gl [] o y s := by
 constructor
 intro C E a w hP hG hsim
 have hx := hsim.ev x
 have hi := hsim.ev ix
 unfold stepIndex at h
 split at h
 ·
  rename_i kind i hie
  rw [hie] at hi
  unfold VA at hi
  have hi := (VD_raw_inv hi).1
  split at h
  ·
   rename_i b hu hxe
   rw [hxe] at hx
   unfold VA at hx
   have hx := (VD_raw_inv hx).1
   simp only [Option.some.injEq, Prod.mk.injEq] at h
   obtain ⟨rfl, rfl⟩ := h
   have hb : 0 ≤ i ∧ i < b.size := hcs.1
   have hlt : i.toNat < b.size := by omega
   refine ⟨.int .u8 (byteAt b i.toNat), fun w' _ => ?_, by unfold VA; exact VD_raw rfl⟩
   have e : b[i.toNat]? = some (b[i.toNat]'hlt) := ByteArray.getElem?_lt' b _ hlt
   have e2 : byteAt b i.toNat = (b[i.toNat]'hlt).toNat := by
    unfold byteAt
    rw [List.getD_eq_getElem?_getD, List.getElem?_eq_getElem (by simpa using hlt)]
    rfl
   simp [execOp, ho, Instr.index, hi, asIntOf, run_underlying hu, hx, hb.1, e, e2]
  ·
   rename_i _ n e hu
   split at h
   ·
    rename_i inf cells hinf hce
    obtain ⟨vs, h1, h2⟩ := cellsA_ok hce hx
    split at h
    ·
     obtain ⟨y', hy, h⟩ := Option.map_eq_some_iff.1 h
     simp only [Prod.mk.injEq] at h
     obtain ⟨rfl, rfl⟩ := h
     have hb : 0 ≤ i ∧ i < n := hcs.1
     obtain ⟨v, h3, h4⟩ := partA_run hy h2
     exact ⟨v, fun w' _ => by simp [execOp, ho, Instr.index, hi, asIntOf, run_underlying hu, h1, hb, sizeOf, typeInfo, program, hinf, Sem.run, h3 w'], h4⟩
    ·
     split at h
     ·
      rename_i ds hds
      split at h
      ·
       rename_i hc
       split at h
       ·
        rename_i d hd
        split at h
        ·
         rename_i hone
         simp only [Option.some.injEq, Prod.mk.injEq] at h
         obtain ⟨rfl, rfl⟩ := h
         have hb : 0 ≤ i ∧ i < n := hcs.1
         have hv := toDs_VCs hds h2
         have hlt : i.toNat < ds.length := by omega
         obtain ⟨v, h3, h4, h5⟩ := hv.get i.toNat d (sel1_eq hd hlt)
         obtain ⟨d', hd1, hd2⟩ := Option.map_eq_some_iff.1 hc.2.2
         refine ⟨v, fun w' _ => ?_, ?_⟩
         ·
          have hp : (part e vs.toArray (i.toNat * inf.size)).run P w' = .ok v w' := by
           rw [hc.1]
           cases d' <;> simp at hd2 <;> simp [part, isAgg, run_underlying hd1, h3]
          simp [execOp, ho, Instr.index, hi, asIntOf, run_underlying hu, h1, hb, sizeOf, typeInfo, program, hinf, Sem.run, hp]
         ·
          unfold VA
          cases d with
          | agg xs => simp [D.one] at hone
          | raw u => exact h5
          | list sz n el => exact h5
        · cases h
       · cases h
      · cases h
     · cases h
   · cases h
  · cases h
 · cases h
end Go.Eng
