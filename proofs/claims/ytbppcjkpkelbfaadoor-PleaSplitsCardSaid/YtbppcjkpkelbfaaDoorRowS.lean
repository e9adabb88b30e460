/-
  Contracts of given functions, or plain laws that they need. No condition.
-/
import Derived.Test.YtbppcjkpkelbfaaDoorRowU
import Derived.SizedLaws
import Derived.Test.YtbppcjkpkelbfaaDoorEng19
import Derived.Lib.Bytealg
import Derived.Test.YtbppcjkpkelbfaaDoorProg
namespace Go.Eng
open Go
set_option linter.unusedVariables false
mutual
def Ty.strs : (t : Ty) → t.Val → Prop
  | .bool, _ => True
  | .int _, _ => True
  | .str, s => ByteArray.size s ≤ reachBytes
  | .list e, l => ∀ x, List.Mem x (l : List e.Val) → e.strs x
  | .agg fs, x => Ty.strss fs x
def Ty.strss : (ts : List Ty) → Ty.Vals ts → Prop
  | [], _ => True
  | t :: ts, x => t.strs x.1 ∧ Ty.strss ts x.2
end
theorem weights_all {H : Type} {P : Program} {e : TypeId} : ∀ {es : List (DataW H)} {d : DataW H}, d ∈ es → ∀ n ∈ d.weights P e, n ∈ DataW.weightsAll P e es
  | x :: r, d, hd, n, hn => by
    rw [DataW.weightsAll, List.mem_append]
    rcases List.mem_cons.1 hd with rfl | hd
    · exact .inl hn
    · exact .inr (weights_all hd n hn)
theorem mem_getD {α : Type} {l : List α} (d : α) {x : α} (h : List.Mem x l) : ∃ i, i < List.length (α := α) l ∧ List.getD (α := α) l i d = x := by
  obtain ⟨i, hi, rfl⟩ := List.getElem_of_mem (a := x) (l := l) h
  exact ⟨i, hi, by rw [List.getD, List.getElem?_eq_getElem hi]; rfl⟩
mutual
theorem Ty.sized {H : Type} {P : Program} : ∀ (τ : Ty) (t : TypeId) (a : τ.Val) (d : DataW H), τ.is P t = true → τ.Rel H a d → (∀ n ∈ d.weights P t, n ≤ reachBytes) → τ.strs a
  | .bool, _, _, _, _, _, _ => by unfold Ty.strs; trivial
  | .int _, _, _, _, _, _, _ => by unfold Ty.strs; trivial
  | .str, t, a, d, hi, hr, hw => by
    simp only [Ty.Rel] at hr
    subst hr
    unfold Ty.strs
    exact Nat.le_trans (Nat.le_of_eq (size_ba _)) (hw _ (by simp [DataW.weights]))
  | .list e, t, l, d, hi, hr, hw => by
    simp only [Ty.is] at hi
    split at hi
    · rename_i u hu
      simp only [Bool.and_eq_true] at hi
      simp only [Ty.Rel] at hr
      unfold Ty.strs
      rcases hr with ⟨rfl, rfl⟩ | ⟨es, rs, rfl, hl, hr⟩
      · intro x hx; cases hx
      · intro x hx
        obtain ⟨i, hi2, hx2⟩ := mem_getD (α := e.Val) (l := l) e.dflt hx
        have hi3 : i < es.length := hl ▸ hi2
        have h2 := hr i hi3
        rw [hx2] at h2
        refine Ty.sized e u _ es[i] hi.2 h2 fun n hn => hw n ?_
        simp only [DataW.weights, hu]
        exact List.mem_cons_of_mem _ (List.mem_append.2 (.inl (weights_all (List.getElem_mem hi3) n hn)))
    · cases hi
  | .agg fs, t, x, d, hi, hr, hw => by
    simp only [Ty.is] at hi
    split at hi
    · rename_i gs hu
      simp only [Bool.and_eq_true] at hi
      simp only [Ty.Rel] at hr
      obtain ⟨ds, rfl, hr⟩ := hr
      unfold Ty.strs
      refine Ty.sizeds fs gs.toList 0 x ds hi.2 hr fun n hn => hw n ?_
      simp only [DataW.weights, hu]
      exact hn
    · cases hi
theorem Ty.sizeds {H : Type} {P : Program} : ∀ (ts : List Ty) (gs : List Field) (off : Nat) (a : Ty.Vals ts) (ds : List (DataW H)), Ty.iss P ts gs off = true → Ty.Rels H ts a ds → (∀ n ∈ DataW.weightsEach P (gs.map (·.type)) ds, n ≤ reachBytes) → Ty.strss ts a
  | [], _, _, _, _, _, _, _ => by unfold Ty.strss; trivial
  | t :: ts, [], _, _, _, hi, _, _ => by simp [Ty.iss] at hi
  | t :: ts, g :: gs, off, a, ds, hi, hr, hw => by
    simp only [Ty.iss, Bool.and_eq_true] at hi
    simp only [Ty.Rels] at hr
    obtain ⟨d, ds', rfl, h1, h2⟩ := hr
    unfold Ty.strss
    simp only [List.map_cons, DataW.weightsEach, List.mem_append] at hw
    exact ⟨Ty.sized t g.type a.1 d hi.1.2 h1 fun n hn => hw n (.inl hn), Ty.sizeds ts gs _ a.2 ds' hi.2 h2 fun n hn => hw n (.inr hn)⟩
end
end Go.Eng

namespace Go.Eng
open Go
set_option linter.unusedVariables false
def ltB (a b : ByteArray) : Bool := Op.bytesLess a.toList b.toList
end Go.Eng

namespace Go.Tab
open Go Go.Eng
set_option linter.unusedVariables false
abbrev Rw := ByteArray × ByteArray
def rowEl (l : List Rw) (i : Nat) : D := .agg [.raw (.string (l.getD i (ByteArray.empty, ByteArray.empty)).1), .raw (.string (l.getD i (ByteArray.empty, ByteArray.empty)).2)]
def bs0 (l : List Rw) (key : ByteArray) (n i j : Int) : St := mk 1 49 [(0, .own 0), (1, .d (.raw (.string (key)))), (2, .d (.raw (.func (.func 70) #[] #[]))), (8, .d (.raw (.int .i64 n))), (9, .d (.raw (.int .i64 i))), (10, .d (.raw (.int .i64 j)))] [(0, .row 148 2 (l.length) (rowEl l))]
def Sorted (l : List Rw) : Prop := l.Pairwise fun r q => ltB r.1 q.1 = true
structure Tidy (l : List Rw) : Prop where
  sorted : Sorted l
  few : l.length ≤ 16
  sized : ∀ r ∈ l, 0 < r.1.size ∧ r.1.size ≤ 16 ∧ r.2.size ≤ 64
def posM (l : List Rw) (key : ByteArray) : Nat := (l.takeWhile fun r => Op.bytesLess r.1.toList key.toList).length
def hasM (l : List Rw) (key : ByteArray) : Bool := l.any fun r => decide (r.1 = key)
def putM (l : List Rw) (key val : ByteArray) : List Rw := if hasM l key then l.set (posM l key) (key, val) else l.take (posM l key) ++ (key, val) :: l.drop (posM l key)
end Go.Tab

namespace Go.Bla
open Go Go.Eng
set_option linter.unusedVariables false
abbrev W := BitVec 32
def wd (x : W) : D := .raw (.int .u32 x.toNat)
def unw (n : Int) : W := BitVec.ofNat 32 n.toNat
def av (x : W) : AV := .d (wd x)
def iw (x : W) : D := .raw (.int .i64 x.toNat)
theorem unw_w (x : W) : unw (x.toNat : Int) = x := by simp [unw]
theorem wrap_u32 (x : Int) : IntKind.u32.wrap x = x % 4294967296 := by set_option maxRecDepth 10000 in simp [IntKind.wrap, IntKind.bits, IntKind.signed]
theorem wrap_u64 (x : Int) : IntKind.u64.wrap x = x % 18446744073709551616 := by set_option maxRecDepth 10000 in simp [IntKind.wrap, IntKind.bits, IntKind.signed]
theorem wrap_u8 (x : Int) : IntKind.u8.wrap x = x % 256 := by set_option maxRecDepth 10000 in simp [IntKind.wrap, IntKind.bits, IntKind.signed]
def half (a b c d w : W) (n1 n2 : Nat) : W × W × W × W :=
  let a' := a + b + w
  let d' := (d ^^^ a').rotateRight n1
  let c' := c + d'
  (a', (b ^^^ c').rotateRight n2, c', d')
def gM (a b c d x y : W) : W × W × W × W :=
  let h := half a b c d x 16 12
  half h.1 h.2.1 h.2.2.1 h.2.2.2 y 8 7
def putM (v : List W) (a b c d : Nat) (x y : W) : List W :=
  let g := gM (v.getD a 0) (v.getD b 0) (v.getD c 0) (v.getD d 0) x y
  (((v.set a g.1).set b g.2.1).set c g.2.2.1).set d g.2.2.2
def roundM (v : List W) (m : Nat → W) : List W :=
  let v := putM v 0 4 8 12 (m 0) (m 1)
  let v := putM v 1 5 9 13 (m 2) (m 3)
  let v := putM v 2 6 10 14 (m 4) (m 5)
  let v := putM v 3 7 11 15 (m 6) (m 7)
  let v := putM v 0 5 10 15 (m 8) (m 9)
  let v := putM v 1 6 11 12 (m 10) (m 11)
  let v := putM v 2 7 8 13 (m 12) (m 13)
  putM v 3 4 9 14 (m 14) (m 15)
theorem len_putM (v : List W) (a b c d : Nat) (x y : W) : (putM v a b c d x y).length = v.length := by simp [putM]
theorem len_roundM (v : List W) (m : Nat → W) : (roundM v m).length = v.length := by simp [roundM, len_putM]
def sigma : List (List Nat) := [
    [0, 1, 2, 3, 4, 5, 6, 7, 8, 9, 10, 11, 12, 13, 14, 15],
    [14, 10, 4, 8, 9, 15, 13, 6, 1, 12, 0, 2, 11, 7, 5, 3],
    [11, 8, 12, 0, 5, 2, 15, 13, 10, 14, 3, 6, 7, 1, 9, 4],
    [7, 9, 3, 1, 13, 12, 11, 14, 2, 6, 5, 10, 4, 0, 15, 8],
    [9, 0, 5, 7, 2, 4, 10, 15, 14, 1, 11, 12, 6, 8, 3, 13],
    [2, 12, 6, 10, 0, 11, 8, 3, 4, 13, 7, 5, 15, 14, 1, 9],
    [12, 5, 1, 15, 14, 13, 4, 10, 0, 7, 6, 3, 9, 2, 8, 11],
    [13, 11, 7, 14, 12, 1, 3, 9, 5, 0, 15, 4, 8, 6, 2, 10],
    [6, 15, 14, 9, 11, 3, 0, 8, 12, 2, 13, 7, 1, 4, 10, 5],
    [10, 2, 8, 4, 7, 6, 1, 5, 15, 11, 9, 14, 3, 12, 13, 0]]
def sg (r j : Nat) : Nat := (sigma.getD r []).getD j 0
def rounds (m : List W) : Nat → List W → List W
  | 0, v => v
  | r + 1, v => roundM (rounds m r v) fun j => m.getD (sg r j) 0
theorem len_rounds (m : List W) (v : List W) : ∀ r, (rounds m r v).length = v.length
  | 0 => rfl
  | r + 1 => by rw [rounds, len_roundM, len_rounds m v r]
def ivM : List W := [0x6A09E667#32, 0xBB67AE85#32, 0x3C6EF372#32, 0xA54FF53A#32, 0x510E527F#32, 0x9B05688C#32, 0x1F83D9AB#32, 0x5BE0CD19#32]
def startM (h : List W) (t0 t1 : W) (last : Bool) : List W :=
  let v := h ++ ivM
  let v := (v.set 12 (v.getD 12 0 ^^^ t0)).set 13 (v.getD 13 0 ^^^ t1)
  if last then v.set 14 (~~~ (v.getD 14 0)) else v
def blockM (h m : List W) (t0 t1 : W) (last : Bool) : List W :=
  let v := rounds m 10 (startM h t0 t1 last)
  (List.range 8).map fun i => h.getD i 0 ^^^ v.getD i 0 ^^^ v.getD (i + 8) 0
theorem or_toNat (x y : Nat) (hx : x < 4294967296) (hy : y < 4294967296) : (BitVec.ofInt 32 (x : Int) ||| BitVec.ofInt 32 (y : Int)).toNat = x ||| y := by
  rw [BitVec.toNat_or]
  simp only [BitVec.ofInt_natCast, BitVec.toNat_ofNat]
  rw [Nat.mod_eq_of_lt hx, Nat.mod_eq_of_lt hy]
theorem int_pow2 (n : Nat) : (2 : Int) ^ n = ((2 ^ n : Nat) : Int) := by rw [Int.natCast_pow]; rfl
theorem rot_eq (x : W) (n : Nat) (h1 : n < 32) :
    IntKind.u32.wrap (((BitVec.ofInt IntKind.u32.bits (IntKind.u32.wrap ((x.toNat : Int) * 2 ^ (32 - n))) ||| BitVec.ofInt IntKind.u32.bits ((x.toNat : Int).fdiv (2 ^ n))).toNat : Nat) : Int) = ((x.rotateRight n).toNat : Int) := by
  have hx : x.toNat < 4294967296 := x.isLt
  have e1 : IntKind.u32.wrap ((x.toNat : Int) * 2 ^ (32 - n)) = ((x.toNat * 2 ^ (32 - n) % 4294967296 : Nat) : Int) := by
    rw [wrap_u32, int_pow2, ← Int.natCast_mul, Int.natCast_emod]; rfl
  have e2 : (x.toNat : Int).fdiv (2 ^ n) = ((x.toNat / 2 ^ n : Nat) : Int) := by
    rw [int_pow2, Int.fdiv_eq_ediv_of_nonneg _ (Int.natCast_nonneg _), Int.natCast_ediv]
  rw [e1, e2]
  have hb : x.toNat / 2 ^ n < 4294967296 := Nat.lt_of_le_of_lt (Nat.div_le_self _ _) hx
  show IntKind.u32.wrap (((BitVec.ofInt 32 _ ||| BitVec.ofInt 32 _).toNat : Nat) : Int) = _
  rw [or_toNat _ _ (Nat.mod_lt _ (by decide)) hb, wrap_u32, BitVec.toNat_rotateRight, Nat.mod_eq_of_lt h1, Nat.shiftRight_eq_div_pow, Nat.shiftLeft_eq, Nat.or_comm]
  have hlt : (x.toNat / 2 ^ n ||| x.toNat * 2 ^ (32 - n) % 2 ^ 32) < 2 ^ 32 := Nat.or_lt_two_pow hb (Nat.mod_lt _ (by decide))
  have e3 : (4294967296 : Nat) = 2 ^ 32 := rfl
  rw [e3]
  omega
theorem add_eq (x y : W) : IntKind.u32.wrap ((x.toNat : Int) + y.toNat) = ((x + y).toNat : Int) := by
  rw [wrap_u32, BitVec.toNat_add]; omega
theorem xor_toNat (x y : W) : (BitVec.ofInt 32 (x.toNat : Int) ^^^ BitVec.ofInt 32 (y.toNat : Int)).toNat = (x ^^^ y).toNat := by
  simp only [BitVec.ofInt_natCast, BitVec.ofNat_toNat, BitVec.setWidth_eq]
theorem xor_eq (x y : W) : IntKind.u32.wrap (((BitVec.ofInt 32 (x.toNat : Int) ^^^ BitVec.ofInt 32 (y.toNat : Int)).toNat : Nat) : Int) = ((x ^^^ y).toNat : Int) := by
  rw [xor_toNat, wrap_u32]
  have := (x ^^^ y).isLt
  omega
def I (n : Int) : D := .raw (.int .i64 n)
def mRot : List AV → List (Nat × Th) → Option (AV × List (Nat × Th) × List Prop)
  | [.d (.raw (.int .u32 x)), .d (.raw (.int .i64 k))], [] => some (av ((unw x).rotateRight (-k).toNat), [], [x = ((unw x).toNat : Int), k = -16 ∨ k = -12 ∨ k = -8 ∨ k = -7])
  | _, _ => none
def lane (q : W × W × W × W) : D := .agg [wd q.1, wd q.2.1, wd q.2.2.1, wd q.2.2.2]
def mHalf : List AV → List (Nat × Th) → Option (AV × List (Nat × Th) × List Prop)
  | [.d (.agg [.raw (.int .u32 a), .raw (.int .u32 b), .raw (.int .u32 c), .raw (.int .u32 d)]), .d (.raw (.int .u32 w)), .d (.raw (.int .i64 p)), .d (.raw (.int .i64 q))], [] =>
    some (.d (lane (half (unw a) (unw b) (unw c) (unw d) (unw w) p.toNat q.toNat)), [], [a = ((unw a).toNat : Int), b = ((unw b).toNat : Int), c = ((unw c).toNat : Int), d = ((unw d).toNat : Int), w = ((unw w).toNat : Int), (p = 16 ∧ q = 12) ∨ (p = 8 ∧ q = 7)])
  | _, _ => none
def nib (row : ByteArray) (j : Nat) : Nat :=
  let c := byteAt row j
  if (c - 48) % 256 > 9 then ((c - 97) % 256 + 10).toNat % 256 else ((c - 48) % 256).toNat
def HexRow (row : ByteArray) : Prop := row.size = 16 ∧ ∀ j, j < 16 → (48 ≤ byteAt row j ∧ byteAt row j ≤ 57) ∨ (97 ≤ byteAt row j ∧ byteAt row j ≤ 102)
def words (m : List W) : List AV := m.map av
def numsOf : List AV → Option (List Int)
  | [] => some []
  | .d (.raw (.int .u32 n)) :: r => (numsOf r).map (n :: ·)
  | _ => none
def OkW (ns : List Int) : Prop := ns = (ns.map unw).map fun x => (x.toNat : Int)
theorem words_of : ∀ {cs : List AV} {ns : List Int}, numsOf cs = some ns → OkW ns → cs = words (ns.map unw)
  | [], ns, h, _ => by simp only [numsOf, Option.some.injEq] at h; subst h; rfl
  | c :: cs, ns, h, hk => by
    unfold numsOf at h
    split at h
    · rename_i h0; cases h0
    · rename_i n r h0
      cases h0
      obtain ⟨ns', h1, rfl⟩ := Option.map_eq_some_iff.1 h
      unfold OkW at hk
      simp only [List.map_cons, List.cons.injEq] at hk
      have ih := words_of h1 hk.2
      rw [ih]
      show _ :: _ = av (unw n) :: _
      unfold av wd
      rw [← hk.1]
      rfl
    · cases h
theorem OkW_map (l : List W) : OkW (l.map fun x => (x.toNat : Int)) := by
  unfold OkW
  rw [List.map_map, List.map_map]
  apply List.map_congr_left
  intro x _
  simp [unw_w]
def mDig : List AV → List (Nat × Th) → Option (AV × List (Nat × Th) × List Prop)
  | [.ref 0 0, .d (.raw (.string row)), .d (.raw (.int .i64 j))], [(0, .obj T cs)] =>
    match numsOf cs with
    | some ns => some (av ((ns.map unw).getD (nib row j.toNat) 0), [(0, .obj T cs)], [OkW ns, ns.length = 16, HexRow row, 0 ≤ j ∧ j < 16])
    | none => none
  | _, _ => none
end Go.Bla
