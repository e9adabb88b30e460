/-
  Contracts of given functions, or plain laws that they need. No condition.
-/
import Derived.Test.YtmgfgcoeflanmaaDoorEng20
namespace Go.Bla
open Go Go.Eng
set_option linter.unusedVariables false

abbrev W := BitVec 32
/-- A word as a datum. -/
def wd (x : W) : D := .raw (.int .u32 x.toNat)
def unw (n : Int) : W := BitVec.ofNat 32 n.toNat
def unW : AV → W
  | .d (.raw (.int _ n)) => unw n
  | _ => 0
def av (x : W) : AV := .d (wd x)
/-- A word as a number. -/
def iw (x : W) : D := .raw (.int .i64 x.toNat)
theorem unw_w (x : W) : unw (x.toNat : Int) = x := by simp [unw]
theorem wrap_u32 (x : Int) : IntKind.u32.wrap x = x % 4294967296 := by set_option maxRecDepth 10000 in simp [IntKind.wrap, IntKind.bits, IntKind.signed]
theorem wrap_u64 (x : Int) : IntKind.u64.wrap x = x % 18446744073709551616 := by set_option maxRecDepth 10000 in simp [IntKind.wrap, IntKind.bits, IntKind.signed]
theorem wrap_u8 (x : Int) : IntKind.u8.wrap x = x % 256 := by set_option maxRecDepth 10000 in simp [IntKind.wrap, IntKind.bits, IntKind.signed]

/-- One half of G. -/
def half (a b c d w : W) (n1 n2 : Nat) : W × W × W × W :=
  let a' := a + b + w
  let d' := (d ^^^ a').rotateRight n1
  let c' := c + d'
  (a', (b ^^^ c').rotateRight n2, c', d')
/-- G. -/
def gM (a b c d x y : W) : W × W × W × W :=
  let h := half a b c d x 16 12
  half h.1 h.2.1 h.2.2.1 h.2.2.2 y 8 7
/-- G on four places. -/
def putM (v : List W) (a b c d : Nat) (x y : W) : List W :=
  let g := gM (v.getD a 0) (v.getD b 0) (v.getD c 0) (v.getD d 0) x y
  (((v.set a g.1).set b g.2.1).set c g.2.2.1).set d g.2.2.2
/-- A round: eight times G. -/
def roundM (v : List W) (m : Nat → W) : List W :=
  let v := putM v 0 4 8 12 (m 0) (m 1)
  let v := putM v 1 5 9 13 (m 2) (m 3)
  let v := putM v 2 6 10 14 (m 4) (m 5)
  let v := putM v 3 7 11 15 (m 6) (m 7)
  let v := putM v 0 5 10 15 (m 8) (m 9)
  let v := putM v 1 6 11 12 (m 10) (m 11)
  let v := putM v 2 7 8 13 (m 12) (m 13)
  putM v 3 4 9 14 (m 14) (m 15)
theorem len_putM (v : List W) (a b c d : Nat) (x y : W) : (putM v a b c d x y).length = v.length := by simp [putM]
theorem len_roundM (v : List W) (m : Nat → W) : (roundM v m).length = v.length := by simp [roundM, len_putM]
def sigma : List (List Nat) := [
    [0, 1, 2, 3, 4, 5, 6, 7, 8, 9, 10, 11, 12, 13, 14, 15],
    [14, 10, 4, 8, 9, 15, 13, 6, 1, 12, 0, 2, 11, 7, 5, 3],
    [11, 8, 12, 0, 5, 2, 15, 13, 10, 14, 3, 6, 7, 1, 9, 4],
    [7, 9, 3, 1, 13, 12, 11, 14, 2, 6, 5, 10, 4, 0, 15, 8],
    [9, 0, 5, 7, 2, 4, 10, 15, 14, 1, 11, 12, 6, 8, 3, 13],
    [2, 12, 6, 10, 0, 11, 8, 3, 4, 13, 7, 5, 15, 14, 1, 9],
    [12, 5, 1, 15, 14, 13, 4, 10, 0, 7, 6, 3, 9, 2, 8, 11],
    [13, 11, 7, 14, 12, 1, 3, 9, 5, 0, 15, 4, 8, 6, 2, 10],
    [6, 15, 14, 9, 11, 3, 0, 8, 12, 2, 13, 7, 1, 4, 10, 5],
    [10, 2, 8, 4, 7, 6, 1, 5, 15, 11, 9, 14, 3, 12, 13, 0]]
def sg (r j : Nat) : Nat := (sigma.getD r []).getD j 0
/-- All rounds. -/
def rounds (m : List W) : Nat → List W → List W
  | 0, v => v
  | r + 1, v => roundM (rounds m r v) fun j => m.getD (sg r j) 0
theorem len_rounds (m : List W) (v : List W) : ∀ r, (rounds m r v).length = v.length
  | 0 => rfl
  | r + 1 => by rw [rounds, len_roundM, len_rounds m v r]
def ivM : List W := [0x6A09E667#32, 0xBB67AE85#32, 0x3C6EF372#32, 0xA54FF53A#32, 0x510E527F#32, 0x9B05688C#32, 0x1F83D9AB#32, 0x5BE0CD19#32]
/-- The state at the rounds' start. -/
def startM (h : List W) (t0 t1 : W) (last : Bool) : List W :=
  let v := h ++ ivM
  let v := (v.set 12 (v.getD 12 0 ^^^ t0)).set 13 (v.getD 13 0 ^^^ t1)
  if last then v.set 14 (~~~ (v.getD 14 0)) else v
def blockM (h m : List W) (t0 t1 : W) (last : Bool) : List W :=
  let v := rounds m 10 (startM h t0 t1 last)
  (List.range 8).map fun i => h.getD i 0 ^^^ v.getD i 0 ^^^ v.getD (i + 8) 0

/-! ### numbers of words -/
theorem or_toNat (x y : Nat) (hx : x < 4294967296) (hy : y < 4294967296) : (BitVec.ofInt 32 (x : Int) ||| BitVec.ofInt 32 (y : Int)).toNat = x ||| y := by
  rw [BitVec.toNat_or]
  simp only [BitVec.ofInt_natCast, BitVec.toNat_ofNat]
  rw [Nat.mod_eq_of_lt hx, Nat.mod_eq_of_lt hy]
theorem int_pow2 (n : Nat) : (2 : Int) ^ n = ((2 ^ n : Nat) : Int) := by rw [Int.natCast_pow]; rfl
theorem rot_eq (x : W) (n : Nat) (h1 : n < 32) :
    IntKind.u32.wrap (((BitVec.ofInt IntKind.u32.bits (IntKind.u32.wrap ((x.toNat : Int) * 2 ^ (32 - n))) ||| BitVec.ofInt IntKind.u32.bits ((x.toNat : Int).fdiv (2 ^ n))).toNat : Nat) : Int) = ((x.rotateRight n).toNat : Int) := by
  have hx : x.toNat < 4294967296 := x.isLt
  have e1 : IntKind.u32.wrap ((x.toNat : Int) * 2 ^ (32 - n)) = ((x.toNat * 2 ^ (32 - n) % 4294967296 : Nat) : Int) := by
    rw [wrap_u32, int_pow2, ← Int.natCast_mul, Int.natCast_emod]; rfl
  have e2 : (x.toNat : Int).fdiv (2 ^ n) = ((x.toNat / 2 ^ n : Nat) : Int) := by
    rw [int_pow2, Int.fdiv_eq_ediv_of_nonneg _ (Int.natCast_nonneg _), Int.natCast_ediv]
  rw [e1, e2]
  have hb : x.toNat / 2 ^ n < 4294967296 := Nat.lt_of_le_of_lt (Nat.div_le_self _ _) hx
  show IntKind.u32.wrap (((BitVec.ofInt 32 _ ||| BitVec.ofInt 32 _).toNat : Nat) : Int) = _
  rw [or_toNat _ _ (Nat.mod_lt _ (by decide)) hb, wrap_u32, BitVec.toNat_rotateRight, Nat.mod_eq_of_lt h1, Nat.shiftRight_eq_div_pow, Nat.shiftLeft_eq, Nat.or_comm]
  have hlt : (x.toNat / 2 ^ n ||| x.toNat * 2 ^ (32 - n) % 2 ^ 32) < 2 ^ 32 := Nat.or_lt_two_pow hb (Nat.mod_lt _ (by decide))
  have e3 : (4294967296 : Nat) = 2 ^ 32 := rfl
  rw [e3]
  omega
/-- Sums, and what differs. -/
theorem add_eq (x y : W) : IntKind.u32.wrap ((x.toNat : Int) + y.toNat) = ((x + y).toNat : Int) := by
  rw [wrap_u32, BitVec.toNat_add]; omega
theorem xor_toNat (x y : W) : (BitVec.ofInt 32 (x.toNat : Int) ^^^ BitVec.ofInt 32 (y.toNat : Int)).toNat = (x ^^^ y).toNat := by
  simp only [BitVec.ofInt_natCast, BitVec.ofNat_toNat, BitVec.setWidth_eq]
theorem xor_eq (x y : W) : IntKind.u32.wrap (((BitVec.ofInt 32 (x.toNat : Int) ^^^ BitVec.ofInt 32 (y.toNat : Int)).toNat : Nat) : Int) = ((x ^^^ y).toNat : Int) := by
  rw [xor_toNat, wrap_u32]
  have := (x ^^^ y).isLt
  omega
/-! ### what is known of the callees -/
def I (n : Int) : D := .raw (.int .i64 n)
/-- (bits.RotateLeft32) -/
def mRot : List AV → List (Nat × Th) → Option (AV × List (Nat × Th) × List Prop)
  | [.d (.raw (.int .u32 x)), .d (.raw (.int .i64 k))], [] => some (av ((unw x).rotateRight (-k).toNat), [], [x = ((unw x).toNat : Int), k = -16 ∨ k = -12 ∨ k = -8 ∨ k = -7])
  | _, _ => none
def lane (q : W × W × W × W) : D := .agg [wd q.1, wd q.2.1, wd q.2.2.1, wd q.2.2.2]
/-- (lane.half) -/
def mHalf : List AV → List (Nat × Th) → Option (AV × List (Nat × Th) × List Prop)
  | [.d (.agg [.raw (.int .u32 a), .raw (.int .u32 b), .raw (.int .u32 c), .raw (.int .u32 d)]), .d (.raw (.int .u32 w)), .d (.raw (.int .i64 p)), .d (.raw (.int .i64 q))], [] =>
    some (.d (lane (half (unw a) (unw b) (unw c) (unw d) (unw w) p.toNat q.toNat)), [], [a = ((unw a).toNat : Int), b = ((unw b).toNat : Int), c = ((unw c).toNat : Int), d = ((unw d).toNat : Int), w = ((unw w).toNat : Int), (p = 16 ∧ q = 12) ∨ (p = 8 ∧ q = 7)])
  | _, _ => none
/-- The hex digit at a place. -/
def nib (row : ByteArray) (j : Nat) : Nat :=
  let c := byteAt row j
  if (c - 48) % 256 > 9 then ((c - 97) % 256 + 10).toNat % 256 else ((c - 48) % 256).toNat
def HexRow (row : ByteArray) : Prop := row.size = 16 ∧ ∀ j, j < 16 → (48 ≤ byteAt row j ∧ byteAt row j ≤ 57) ∨ (97 ≤ byteAt row j ∧ byteAt row j ≤ 102)
theorem nib_lt {row : ByteArray} (h : HexRow row) {j : Nat} (hj : j < 16) : nib row j < 16 := by
  have := h.2 j hj
  unfold nib
  simp only
  split <;> omega
def words (m : List W) : List AV := m.map av
/-- The numbers of cells of words. -/
def numsOf : List AV → Option (List Int)
  | [] => some []
  | .d (.raw (.int .u32 n)) :: r => (numsOf r).map (n :: ·)
  | _ => none
def OkW (ns : List Int) : Prop := ns = (ns.map unw).map fun x => (x.toNat : Int)
theorem words_of : ∀ {cs : List AV} {ns : List Int}, numsOf cs = some ns → OkW ns → cs = words (ns.map unw)
  | [], ns, h, _ => by simp only [numsOf, Option.some.injEq] at h; subst h; rfl
  | c :: cs, ns, h, hk => by
    unfold numsOf at h
    split at h
    · rename_i h0; cases h0
    · rename_i n r h0
      cases h0
      obtain ⟨ns', h1, rfl⟩ := Option.map_eq_some_iff.1 h
      unfold OkW at hk
      simp only [List.map_cons, List.cons.injEq] at hk
      have ih := words_of h1 hk.2
      rw [ih]
      show _ :: _ = av (unw n) :: _
      unfold av wd
      rw [← hk.1]
      rfl
    · cases h
theorem OkW_map (l : List W) : OkW (l.map fun x => (x.toNat : Int)) := by
  unfold OkW
  rw [List.map_map, List.map_map]
  apply List.map_congr_left
  intro x _
  simp [unw_w]
/-- (digit) -/
def mDig : List AV → List (Nat × Th) → Option (AV × List (Nat × Th) × List Prop)
  | [.ref 0 0, .d (.raw (.string row)), .d (.raw (.int .i64 j))], [(0, .obj T cs)] =>
    match numsOf cs with
    | some ns => some (av ((ns.map unw).getD (nib row j.toNat) 0), [(0, .obj T cs)], [OkW ns, ns.length = 16, HexRow row, 0 ≤ j ∧ j < 16])
    | none => none
  | _, _ => none
end Go.Bla

namespace Go.Bla
open Go
/-- A word as a number; sixteen of them. -/
abbrev tN (x : W) : Int := (x.toNat : Int)
abbrev tL (x0 x1 x2 x3 x4 x5 x6 x7 x8 x9 x10 x11 x12 x13 x14 x15 : W) : List Int := [tN x0, tN x1, tN x2, tN x3, tN x4, tN x5, tN x6, tN x7, tN x8, tN x9, tN x10, tN x11, tN x12, tN x13, tN x14, tN x15]
end Go.Bla
