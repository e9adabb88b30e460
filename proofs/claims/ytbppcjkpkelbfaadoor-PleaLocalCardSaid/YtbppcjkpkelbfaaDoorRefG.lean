/-
  Contracts of given functions, plain laws. No condition.
-/
import Derived.Test.YtbppcjkpkelbfaaDoorRowS
import Derived.Test.YtbppcjkpkelbfaaDoorPrfG
import Derived.Test.YtbppcjkpkelbfaaDoorProg
namespace Go.Bla
open Go Go.Eng
def mRight : List AV → List (Nat × Th) → Option (AV × List (Nat × Th) × List Prop)
 | [.d (.raw (.int .i64 x)), .d (.raw (.int .i64 n))], [] => some (.d (iw ((unw x).rotateRight n.toNat)), [], [x = ((unw x).toNat : Int), n = 16 ∨ n = 12 ∨ n = 8 ∨ n = 7])
 | _, _ => none
def four (q : W × W × W × W) : D := .agg [iw q.1, iw q.2.1, iw q.2.2.1, iw q.2.2.2]
def mG : List AV → List (Nat × Th) → Option (AV × List (Nat × Th) × List Prop)
 | [.d (.agg [.raw (.int .i64 a), .raw (.int .i64 b), .raw (.int .i64 c), .raw (.int .i64 d)]), .d (.raw (.int .i64 x)), .d (.raw (.int .i64 y))], [] =>
  some (.d (four (gM (unw a) (unw b) (unw c) (unw d) (unw x) (unw y))), [], [a = ((unw a).toNat : Int), b = ((unw b).toNat : Int), c = ((unw c).toNat : Int), d = ((unw d).toNat : Int), x = ((unw x).toNat : Int), y = ((unw y).toNat : Int)])
 | _, _ => none
def wel (l : List W) (i : Nat) : D := iw (l.getD i 0)
def wl (n : Nat) (el : Nat → D) : List W := (List.range n).map fun i => unw (unI (el i))
def OkR (n : Nat) (el : Nat → D) : Prop := ∀ i, i < n → el i = wel (wl n el) i
def mPut : List AV → List (Nat × Th) → Option (AV × List (Nat × Th) × List Prop)
 | [.own 0, .d (.raw (.int .i64 a)), .d (.raw (.int .i64 b)), .d (.raw (.int .i64 c)), .d (.raw (.int .i64 d)), .d (.raw (.int .i64 x)), .d (.raw (.int .i64 y))], [(0, .row T 1 16 el)] =>
  some (.dead, [(0, .row T 1 16 (wel (putM (wl 16 el) a.toNat b.toNat c.toNat d.toNat (unw x) (unw y))))], [OkR 16 el, x = ((unw x).toNat : Int), y = ((unw y).toNat : Int), (0 ≤ a ∧ a < 4) ∧ (4 ≤ b ∧ b < 8) ∧ (8 ≤ c ∧ c < 12) ∧ (12 ≤ d ∧ d < 16)])
 | _, _ => none
def mRow : List AV → List (Nat × Th) → Option (AV × List (Nat × Th) × List Prop)
 | [.d (.raw (.int .i64 r))], [] => some (.d (.list 1 16 fun i => I (sg r.toNat i)), [], [0 ≤ r ∧ r < 10])
 | _, _ => none
def mIv : List AV → List (Nat × Th) → Option (AV × List (Nat × Th) × List Prop)
 | [], [] => some (.own 0, [(0, .row 3 1 8 (wel ivM))], [])
 | _, _ => none
def Q1 : Orc := (Orc.none gl).add 76 false mRight
def Q2 : Orc := Q1.add 72 false mG
def Q3 : Orc := Q2.add 67 false mPut
def Q4 : Orc := Q3.add 66 false mRow
def Q5 : Orc := Q4.add 60 false mIv
end Go.Bla

namespace Go.Bla
open Go Go.Eng
def hD (h : List W) : AV := .d (.list 1 8 (wel h))
def bD (b : Nat → Int) : AV := .d (.list 1 64 fun i => .raw (.int .u8 (b i)))
def rs0 (h : List W) (b : Nat → Int) (t : Int) (last : Bool) (k : Nat) (i : Int) (el : Nat → D) : St := mk 0 222 [(0, hD h), (1, bD b), (2, .d (I t)), (3, .d (.raw (.bool last))), (9, .own 0), (10, .d (I i))] [(0, .row 3 1 k el)]
def rs9 (h : List W) (t : Int) (last : Bool) (el : Nat → D) : St := mk 0 222 [(0, hD h), (2, .d (I t)), (3, .d (.raw (.bool last))), (9, .own 0)] [(0, .row 3 1 16 el)]
def rs1 (h m v : List W) (r : Int) : St := mk 0 222 [(0, hD h), (9, .own 0), (11, .own 1), (12, .d (I r))] [(0, .row 3 1 16 (wel m)), (1, .row 3 1 16 (wel v))]
def rs2 (h v : List W) (n : Nat) (i : Int) (el : Nat → D) : St := mk 0 222 [(0, hD h), (11, .own 0), (14, .own 1), (15, .d (I i))] [(0, .row 3 1 16 (wel v)), (1, .row 3 1 n el)]
end Go.Bla

namespace Go.Bla
open Go Go.Eng Go.Proofs
set_option maxRecDepth 100000
set_option maxHeartbeats 4000000
theorem wrap_i64 (x : Int) (h : -9223372036854775808 ≤ x ∧ x < 9223372036854775808) : IntKind.i64.wrap x = x := by
 have : IntKind.i64.wrap x = if 9223372036854775808 ≤ x % 18446744073709551616 then x % 18446744073709551616 - 18446744073709551616 else x % 18446744073709551616 := by
  set_option maxRecDepth 10000 in simp [IntKind.wrap, IntKind.bits, IntKind.signed]
 rw [this]; split <;> omega
theorem right_eq (x : W) (n : Nat) (h1 : n < 32) (h0 : 0 < n) :
  IntKind.i64.wrap (IntKind.i64.wrap ((x.toNat : Int).tdiv ((2 ^ n : Nat) : Int)) + IntKind.i64.wrap ((x.toNat : Int).tmod ((2 ^ n : Nat) : Int) * ((2 ^ (32 - n) : Nat) : Int))) = ((x.rotateRight n).toNat : Int) := by
 have hx : x.toNat < 4294967296 := x.isLt
 have e1 : (x.toNat : Int).tdiv ((2 ^ n : Nat) : Int) = ((x.toNat / 2 ^ n : Nat) : Int) := by
  rw [Int.tdiv_eq_ediv_of_nonneg (Int.natCast_nonneg _), Int.natCast_ediv]
 have e2 : (x.toNat : Int).tmod ((2 ^ n : Nat) : Int) = ((x.toNat % 2 ^ n : Nat) : Int) := by
  rw [Int.tmod_eq_emod_of_nonneg (Int.natCast_nonneg _), Int.natCast_emod]
 rw [e1, e2, ← Int.natCast_mul]
 have hb : x.toNat / 2 ^ n < 4294967296 := Nat.lt_of_le_of_lt (Nat.div_le_self _ _) hx
 have hp : 2 ^ n * 2 ^ (32 - n) = 4294967296 := by rw [← Nat.pow_add, Nat.add_sub_cancel' (by omega)]
 have hm : x.toNat % 2 ^ n * 2 ^ (32 - n) < 4294967296 := by
  rw [← hp]; exact Nat.mul_lt_mul_of_pos_right (Nat.mod_lt _ (Nat.two_pow_pos _)) (Nat.two_pow_pos _)
 have key : ∀ p q : Nat, p < 4294967296 → q < 4294967296 → IntKind.i64.wrap (IntKind.i64.wrap (p : Int) + IntKind.i64.wrap (q : Int)) = ((p + q : Nat) : Int) := fun p q h1 h2 => by
  rw [wrap_i64 (p : Int) (by omega), wrap_i64 (q : Int) (by omega), wrap_i64 _ (by omega)]; rfl
 rw [key _ _ hb hm]
 rw [BitVec.toNat_rotateRight, Nat.mod_eq_of_lt h1, Nat.shiftRight_eq_div_pow, Nat.shiftLeft_eq]
 have e3 : x.toNat * 2 ^ (32 - n) % 2 ^ 32 = x.toNat % 2 ^ n * 2 ^ (32 - n) := by
  have e4 : (2 : Nat) ^ 32 = 2 ^ n * 2 ^ (32 - n) := by rw [hp]
  rw [e4, Nat.mul_mod_mul_right]
 rw [e3]
 have hd : x.toNat / 2 ^ n < 2 ^ (32 - n) := by
  rw [Nat.div_lt_iff_lt_mul (Nat.two_pow_pos _), Nat.mul_comm, hp]; exact hx
 have e5 : x.toNat / 2 ^ n ||| x.toNat % 2 ^ n * 2 ^ (32 - n) = x.toNat / 2 ^ n + x.toNat % 2 ^ n * 2 ^ (32 - n) := by
  rw [Nat.or_comm, Nat.mul_comm, ← Nat.two_pow_add_eq_or_of_lt hd, Nat.add_comm]
 rw [e5]
theorem right_ok (x : W) (n : Int) (hn : n = 16 ∨ n = 12 ∨ n = 8 ∨ n = 7) : Eng.Spec Tryd.prog gl 76 [.d (iw x), .d (I n)] [] (.d (iw (x.rotateRight n.toNat))) [] := by
 refine spec_fn Tryd.func76 rfl fun {w N E a} hsim => ?_
 have q0_ : (IntKind.i64.wrap ((1 : Int) * (2 : Int) ^ min (IntKind.u64.wrap n).toNat (64 : Nat)) ≠ (0 : Int)) := (by (rcases hn with rfl | rfl | rfl | rfl <;> decide))
 exact gr (OrcOK.none gl) Tryd.func76 (sr' := let za := wI ((1 : Int) * (2 : Int) ^ min (IntKind.u64.wrap n).toNat 64); ⟨0, [vI (wI (wI ((tN x).tdiv za) + wI ((tN x).tmod za * wI (Int.tdiv (4294967296 : Int) za))))], []⟩) (cs := ((fun (c0 : Prop) => [((0 : Int) ≤ IntKind.u64.wrap n), c0, c0, c0]) _)) [] true ⟨(by (rcases hn with rfl | rfl | rfl | rfl <;> decide)), q0_, q0_, q0_, trivial⟩ (by rcases hn with rfl | rfl | rfl | rfl <;> exact Eq.trans (by kernel_rfl) (congrArg (fun z => (⟨0, [.d (I z)], []⟩ : St)) (right_eq x _ (by decide) (by decide)))) hsim
theorem Q1_ok : OrcOK Tryd.prog Q1 := (OrcOK.none gl).add _ false mRight fun args H r H' cs h hc => by
 unfold mRight at h
 split at h
 ·
  rename_i x n
  cases h
  obtain ⟨h1, h2, _⟩ := hc
  have := right_ok (unw x) n h2
  unfold iw at this
  rw [← h1] at this
  exact this
 · cases h
theorem add2 (x y : W) : (IntKind.i64.wrap ((x.toNat : Int) + (y.toNat : Int))).tmod (4294967296 : Int) = ((x + y).toNat : Int) := by
 have := x.isLt; have := y.isLt
 rw [wrap_i64 _ (by omega), Int.tmod_eq_emod_of_nonneg (by omega), BitVec.toNat_add]; omega
theorem add3 (x y z : W) : (IntKind.i64.wrap (IntKind.i64.wrap ((x.toNat : Int) + (y.toNat : Int)) + (z.toNat : Int))).tmod (4294967296 : Int) = ((x + y + z).toNat : Int) := by
 have := x.isLt; have := y.isLt; have := z.isLt
 rw [wrap_i64 ((x.toNat : Int) + y.toNat) (by omega), wrap_i64 _ (by omega), Int.tmod_eq_emod_of_nonneg (by omega), BitVec.toNat_add, BitVec.toNat_add]; omega
theorem xor64 (x y : W) : IntKind.i64.wrap (((BitVec.ofInt (64 : Nat) (x.toNat : Int) ^^^ BitVec.ofInt (64 : Nat) (y.toNat : Int)).toNat : Nat) : Int) = ((x ^^^ y).toNat : Int) := by
 have hx := x.isLt; have hy := y.isLt
 have e : (BitVec.ofInt (64 : Nat) (x.toNat : Int) ^^^ BitVec.ofInt (64 : Nat) (y.toNat : Int)).toNat = (x ^^^ y).toNat := by
  rw [BitVec.toNat_xor, BitVec.toNat_xor]
  simp only [BitVec.ofInt_natCast, BitVec.toNat_ofNat]
  rw [Nat.mod_eq_of_lt (by omega), Nat.mod_eq_of_lt (by omega)]
 rw [e]
 have := (x ^^^ y).isLt
 rw [wrap_i64 _ (by omega)]
theorem g_ok (a b c d x y : W) : Eng.Spec Tryd.prog gl 72 [.d (.agg [iw a, iw b, iw c, iw d]), .d (iw x), .d (iw y)] [] (.d (four (gM a b c d x y))) [] := by
 refine spec_fn Tryd.func72 rfl fun {w N E a0} hsim => ?_
 have q0_ : (Nz 4294967296) := (by decide)
 exact gr Q1_ok Tryd.func72 (sr' := let zc := wI (wI ((tN a) + (tN b)) + (tN x)); let zb := (4294967296 : Int); let za := (↑(BitVec.rotateRight (unw (wI (↑(BitVec.ofInt 64 (tN d) ^^^ BitVec.ofInt 64 (zc.tmod zb)).toNat : Int))) 16).toNat : Int); ⟨0, [.d (.agg [rI ((wI (wI (zc.tmod zb + (↑(BitVec.rotateRight (unw (wI (↑(BitVec.ofInt 64 (tN b) ^^^ BitVec.ofInt 64 ((wI ((tN c) + za)).tmod zb)).toNat : Int))) 12).toNat : Int)) + (tN y))).tmod zb), rI ((↑(BitVec.rotateRight (unw (wI (↑(BitVec.ofInt 64 (↑(BitVec.rotateRight (unw (wI (↑(BitVec.ofInt 64 (tN b) ^^^ BitVec.ofInt 64 ((wI ((tN c) + za)).tmod zb)).toNat : Int))) 12).toNat : Int) ^^^ BitVec.ofInt 64 ((wI ((wI ((tN c) + za)).tmod zb + (↑(BitVec.rotateRight (unw (wI (↑(BitVec.ofInt 64 za ^^^ BitVec.ofInt 64 ((wI (wI (zc.tmod zb + (↑(BitVec.rotateRight (unw (wI (↑(BitVec.ofInt 64 (tN b) ^^^ BitVec.ofInt 64 ((wI ((tN c) + za)).tmod zb)).toNat : Int))) 12).toNat : Int)) + (tN y))).tmod zb)).toNat : Int))) 8).toNat : Int))).tmod zb)).toNat : Int))) 7).toNat : Int)), rI ((wI ((wI ((tN c) + za)).tmod zb + (↑(BitVec.rotateRight (unw (wI (↑(BitVec.ofInt 64 za ^^^ BitVec.ofInt 64 ((wI (wI (zc.tmod zb + (↑(BitVec.rotateRight (unw (wI (↑(BitVec.ofInt 64 (tN b) ^^^ BitVec.ofInt 64 ((wI ((tN c) + za)).tmod zb)).toNat : Int))) 12).toNat : Int)) + (tN y))).tmod zb)).toNat : Int))) 8).toNat : Int))).tmod zb), rI ((↑(BitVec.rotateRight (unw (wI (↑(BitVec.ofInt 64 za ^^^ BitVec.ofInt 64 ((wI (wI (zc.tmod zb + (↑(BitVec.rotateRight (unw (wI (↑(BitVec.ofInt 64 (tN b) ^^^ BitVec.ofInt 64 ((wI ((tN c) + za)).tmod zb)).toNat : Int))) 12).toNat : Int)) + (tN y))).tmod zb)).toNat : Int))) 8).toNat : Int))])], []⟩) (cs := ((fun (c0 : Prop) => [c0, (IntKind.i64.wrap (↑(BitVec.ofInt 64 (tN d) ^^^ BitVec.ofInt 64 ((IntKind.i64.wrap (IntKind.i64.wrap ((tN a) + (tN b)) + (tN x))).tmod (4294967296 : Int))).toNat : Int) = (tN (unw (IntKind.i64.wrap (↑(BitVec.ofInt 64 (tN d) ^^^ BitVec.ofInt 64 ((IntKind.i64.wrap (IntKind.i64.wrap ((tN a) + (tN b)) + (tN x))).tmod (4294967296 : Int))).toNat : Int))))), ((16 : Int) = (16 : Int) ∨ (16 : Int) = (12 : Int) ∨ (16 : Int) = (8 : Int) ∨ (16 : Int) = (7 : Int)), c0, (IntKind.i64.wrap (↑(BitVec.ofInt 64 (tN b) ^^^ BitVec.ofInt 64 ((IntKind.i64.wrap ((tN c) + (↑(BitVec.rotateRight (unw (IntKind.i64.wrap (↑(BitVec.ofInt 64 (tN d) ^^^ BitVec.ofInt 64 ((IntKind.i64.wrap (IntKind.i64.wrap ((tN a) + (tN b)) + (tN x))).tmod (4294967296 : Int))).toNat : Int))) 16).toNat : Int))).tmod (4294967296 : Int))).toNat : Int) = (tN (unw (IntKind.i64.wrap (↑(BitVec.ofInt 64 (tN b) ^^^ BitVec.ofInt 64 ((IntKind.i64.wrap ((tN c) + (↑(BitVec.rotateRight (unw (IntKind.i64.wrap (↑(BitVec.ofInt 64 (tN d) ^^^ BitVec.ofInt 64 ((IntKind.i64.wrap (IntKind.i64.wrap ((tN a) + (tN b)) + (tN x))).tmod (4294967296 : Int))).toNat : Int))) 16).toNat : Int))).tmod (4294967296 : Int))).toNat : Int))))), ((12 : Int) = (16 : Int) ∨ (12 : Int) = (12 : Int) ∨ (12 : Int) = (8 : Int) ∨ (12 : Int) = (7 : Int)), c0, (IntKind.i64.wrap (↑(BitVec.ofInt 64 (↑(BitVec.rotateRight (unw (IntKind.i64.wrap (↑(BitVec.ofInt 64 (tN d) ^^^ BitVec.ofInt 64 ((IntKind.i64.wrap (IntKind.i64.wrap ((tN a) + (tN b)) + (tN x))).tmod (4294967296 : Int))).toNat : Int))) 16).toNat : Int) ^^^ BitVec.ofInt 64 ((IntKind.i64.wrap (IntKind.i64.wrap ((IntKind.i64.wrap (IntKind.i64.wrap ((tN a) + (tN b)) + (tN x))).tmod (4294967296 : Int) + (↑(BitVec.rotateRight (unw (IntKind.i64.wrap (↑(BitVec.ofInt 64 (tN b) ^^^ BitVec.ofInt 64 ((IntKind.i64.wrap ((tN c) + (↑(BitVec.rotateRight (unw (IntKind.i64.wrap (↑(BitVec.ofInt 64 (tN d) ^^^ BitVec.ofInt 64 ((IntKind.i64.wrap (IntKind.i64.wrap ((tN a) + (tN b)) + (tN x))).tmod (4294967296 : Int))).toNat : Int))) 16).toNat : Int))).tmod (4294967296 : Int))).toNat : Int))) 12).toNat : Int)) + (tN y))).tmod (4294967296 : Int))).toNat : Int) = (tN (unw (IntKind.i64.wrap (↑(BitVec.ofInt 64 (↑(BitVec.rotateRight (unw (IntKind.i64.wrap (↑(BitVec.ofInt 64 (tN d) ^^^ BitVec.ofInt 64 ((IntKind.i64.wrap (IntKind.i64.wrap ((tN a) + (tN b)) + (tN x))).tmod (4294967296 : Int))).toNat : Int))) 16).toNat : Int) ^^^ BitVec.ofInt 64 ((IntKind.i64.wrap (IntKind.i64.wrap ((IntKind.i64.wrap (IntKind.i64.wrap ((tN a) + (tN b)) + (tN x))).tmod (4294967296 : Int) + (↑(BitVec.rotateRight (unw (IntKind.i64.wrap (↑(BitVec.ofInt 64 (tN b) ^^^ BitVec.ofInt 64 ((IntKind.i64.wrap ((tN c) + (↑(BitVec.rotateRight (unw (IntKind.i64.wrap (↑(BitVec.ofInt 64 (tN d) ^^^ BitVec.ofInt 64 ((IntKind.i64.wrap (IntKind.i64.wrap ((tN a) + (tN b)) + (tN x))).tmod (4294967296 : Int))).toNat : Int))) 16).toNat : Int))).tmod (4294967296 : Int))).toNat : Int))) 12).toNat : Int)) + (tN y))).tmod (4294967296 : Int))).toNat : Int))))), ((8 : Int) = (16 : Int) ∨ (8 : Int) = (12 : Int) ∨ (8 : Int) = (8 : Int) ∨ (8 : Int) = (7 : Int)), c0, (IntKind.i64.wrap (↑(BitVec.ofInt 64 (↑(BitVec.rotateRight (unw (IntKind.i64.wrap (↑(BitVec.ofInt 64 (tN b) ^^^ BitVec.ofInt 64 ((IntKind.i64.wrap ((tN c) + (↑(BitVec.rotateRight (unw (IntKind.i64.wrap (↑(BitVec.ofInt 64 (tN d) ^^^ BitVec.ofInt 64 ((IntKind.i64.wrap (IntKind.i64.wrap ((tN a) + (tN b)) + (tN x))).tmod (4294967296 : Int))).toNat : Int))) 16).toNat : Int))).tmod (4294967296 : Int))).toNat : Int))) 12).toNat : Int) ^^^ BitVec.ofInt 64 ((IntKind.i64.wrap ((IntKind.i64.wrap ((tN c) + (↑(BitVec.rotateRight (unw (IntKind.i64.wrap (↑(BitVec.ofInt 64 (tN d) ^^^ BitVec.ofInt 64 ((IntKind.i64.wrap (IntKind.i64.wrap ((tN a) + (tN b)) + (tN x))).tmod (4294967296 : Int))).toNat : Int))) 16).toNat : Int))).tmod (4294967296 : Int) + (↑(BitVec.rotateRight (unw (IntKind.i64.wrap (↑(BitVec.ofInt 64 (↑(BitVec.rotateRight (unw (IntKind.i64.wrap (↑(BitVec.ofInt 64 (tN d) ^^^ BitVec.ofInt 64 ((IntKind.i64.wrap (IntKind.i64.wrap ((tN a) + (tN b)) + (tN x))).tmod (4294967296 : Int))).toNat : Int))) 16).toNat : Int) ^^^ BitVec.ofInt 64 ((IntKind.i64.wrap (IntKind.i64.wrap ((IntKind.i64.wrap (IntKind.i64.wrap ((tN a) + (tN b)) + (tN x))).tmod (4294967296 : Int) + (↑(BitVec.rotateRight (unw (IntKind.i64.wrap (↑(BitVec.ofInt 64 (tN b) ^^^ BitVec.ofInt 64 ((IntKind.i64.wrap ((tN c) + (↑(BitVec.rotateRight (unw (IntKind.i64.wrap (↑(BitVec.ofInt 64 (tN d) ^^^ BitVec.ofInt 64 ((IntKind.i64.wrap (IntKind.i64.wrap ((tN a) + (tN b)) + (tN x))).tmod (4294967296 : Int))).toNat : Int))) 16).toNat : Int))).tmod (4294967296 : Int))).toNat : Int))) 12).toNat : Int)) + (tN y))).tmod (4294967296 : Int))).toNat : Int))) 8).toNat : Int))).tmod (4294967296 : Int))).toNat : Int) = (tN (unw (IntKind.i64.wrap (↑(BitVec.ofInt 64 (↑(BitVec.rotateRight (unw (IntKind.i64.wrap (↑(BitVec.ofInt 64 (tN b) ^^^ BitVec.ofInt 64 ((IntKind.i64.wrap ((tN c) + (↑(BitVec.rotateRight (unw (IntKind.i64.wrap (↑(BitVec.ofInt 64 (tN d) ^^^ BitVec.ofInt 64 ((IntKind.i64.wrap (IntKind.i64.wrap ((tN a) + (tN b)) + (tN x))).tmod (4294967296 : Int))).toNat : Int))) 16).toNat : Int))).tmod (4294967296 : Int))).toNat : Int))) 12).toNat : Int) ^^^ BitVec.ofInt 64 ((IntKind.i64.wrap ((IntKind.i64.wrap ((tN c) + (↑(BitVec.rotateRight (unw (IntKind.i64.wrap (↑(BitVec.ofInt 64 (tN d) ^^^ BitVec.ofInt 64 ((IntKind.i64.wrap (IntKind.i64.wrap ((tN a) + (tN b)) + (tN x))).tmod (4294967296 : Int))).toNat : Int))) 16).toNat : Int))).tmod (4294967296 : Int) + (↑(BitVec.rotateRight (unw (IntKind.i64.wrap (↑(BitVec.ofInt 64 (↑(BitVec.rotateRight (unw (IntKind.i64.wrap (↑(BitVec.ofInt 64 (tN d) ^^^ BitVec.ofInt 64 ((IntKind.i64.wrap (IntKind.i64.wrap ((tN a) + (tN b)) + (tN x))).tmod (4294967296 : Int))).toNat : Int))) 16).toNat : Int) ^^^ BitVec.ofInt 64 ((IntKind.i64.wrap (IntKind.i64.wrap ((IntKind.i64.wrap (IntKind.i64.wrap ((tN a) + (tN b)) + (tN x))).tmod (4294967296 : Int) + (↑(BitVec.rotateRight (unw (IntKind.i64.wrap (↑(BitVec.ofInt 64 (tN b) ^^^ BitVec.ofInt 64 ((IntKind.i64.wrap ((tN c) + (↑(BitVec.rotateRight (unw (IntKind.i64.wrap (↑(BitVec.ofInt 64 (tN d) ^^^ BitVec.ofInt 64 ((IntKind.i64.wrap (IntKind.i64.wrap ((tN a) + (tN b)) + (tN x))).tmod (4294967296 : Int))).toNat : Int))) 16).toNat : Int))).tmod (4294967296 : Int))).toNat : Int))) 12).toNat : Int)) + (tN y))).tmod (4294967296 : Int))).toNat : Int))) 8).toNat : Int))).tmod (4294967296 : Int))).toNat : Int))))), ((7 : Int) = (16 : Int) ∨ (7 : Int) = (12 : Int) ∨ (7 : Int) = (8 : Int) ∨ (7 : Int) = (7 : Int))]) _)) [] true ⟨q0_, (by (simp only [add2, add3, xor64, unw_w]; done)), (by decide), q0_, (by (simp only [add2, add3, xor64, unw_w]; done)), (by decide), q0_, (by (simp only [add2, add3, xor64, unw_w]; done)), (by decide), q0_, (by (simp only [add2, add3, xor64, unw_w]; done)), (by decide), trivial⟩ (by simp only [add2, add3, xor64, unw_w]; rfl) hsim
theorem Q2_ok : OrcOK Tryd.prog Q2 := Q1_ok.add _ false mG fun args H r H' cs h hc => by
 unfold mG at h
 split at h
 ·
  rename_i a b c d x y
  cases h
  obtain ⟨h1, h2, h3, h4, h5, h6, _⟩ := hc
  have := g_ok (unw a) (unw b) (unw c) (unw d) (unw x) (unw y)
  unfold iw at this
  rw [← h1, ← h2, ← h3, ← h4, ← h5, ← h6] at this
  exact this
 · cases h
theorem getD_set (l : List W) (i j : Nat) (x : W) (hi : i < l.length) : (l.set i x).getD j 0 = if j = i then x else l.getD j 0 := by
 rw [List.getD_eq_getElem?_getD, List.getElem?_set]
 by_cases h : i = j
 · subst h; simp [hi]
 · rw [if_neg h, if_neg (fun e => h e.symm), List.getD_eq_getElem?_getD]
theorem put_ok (T : Nat) (v : List W) (hv : v.length = 16) (a b c d : Nat) (ha : a < 4) (hb : 4 ≤ b ∧ b < 8) (hc : 8 ≤ c ∧ c < 12) (hd : 12 ≤ d ∧ d < 16) (x y : W) :
  Eng.Spec Tryd.prog gl 67 [.own 0, .d (I a), .d (I b), .d (I c), .d (I d), .d (iw x), .d (iw y)] [(0, .row T 1 16 (wel v))] .dead [(0, .row T 1 16 (wel (putM v a b c d x y)))] := by
 refine spec_fn Tryd.func67 rfl fun {w N E a0} hsim => ?_
 have q0_ : ((0 : Int) ≤ (↑a : Int) ∧ (↑a : Int) < (16 : Int)) := (by omega)
 have q1_ : ((↑a : Int).toNat < (16 : Nat)) := (by omega)
 have q2_ : ((0 : Int) ≤ (↑b : Int) ∧ (↑b : Int) < (16 : Int)) := (by omega)
 have q3_ : ((↑b : Int).toNat < (16 : Nat)) := (by omega)
 have q4_ : ((0 : Int) ≤ (↑c : Int) ∧ (↑c : Int) < (16 : Int)) := (by omega)
 have q5_ : ((↑c : Int).toNat < (16 : Nat)) := (by omega)
 have q6_ : ((0 : Int) ≤ (↑d : Int) ∧ (↑d : Int) < (16 : Int)) := (by omega)
 have q7_ : ((↑d : Int).toNat < (16 : Nat)) := (by omega)
 have q8_ : ((tN (v.getD (↑a : Int).toNat (0 : W))) = (tN (unw (tN (v.getD (↑a : Int).toNat (0 : W)))))) := (by (simp only [unw_w]; done))
 have q9_ : ((tN (v.getD (↑b : Int).toNat (0 : W))) = (tN (unw (tN (v.getD (↑b : Int).toNat (0 : W)))))) := (by (simp only [unw_w]; done))
 have q10_ : ((tN (v.getD (↑c : Int).toNat (0 : W))) = (tN (unw (tN (v.getD (↑c : Int).toNat (0 : W)))))) := (by (simp only [unw_w]; done))
 have q11_ : ((tN (v.getD (↑d : Int).toNat (0 : W))) = (tN (unw (tN (v.getD (↑d : Int).toNat (0 : W)))))) := (by (simp only [unw_w]; done))
 have q12_ : ((tN x) = (tN (unw (tN x)))) := (by (simp only [unw_w]; done))
 have q13_ : ((tN y) = (tN (unw (tN y)))) := (by (simp only [unw_w]; done))
 exact gs Q2_ok Tryd.func67 (sr' := let za := gM (unw (tN (v.getD (↑a : Int).toNat (0 : W)))) (unw (tN (v.getD (↑b : Int).toNat (0 : W)))) (unw (tN (v.getD (↑c : Int).toNat (0 : W)))) (unw (tN (v.getD (↑d : Int).toNat (0 : W)))) (unw (tN x)) (unw (tN y)); ⟨1, [.dead], [(0, .row T 1 16 (fun j => mrg (j.beq (↑d : Int).toNat) (rI (↑(BitVec.toNat za.snd.snd.snd) : Int)) (mrg (j.beq (↑c : Int).toNat) (rI (↑(BitVec.toNat za.snd.snd.fst) : Int)) (mrg (j.beq (↑b : Int).toNat) (rI (↑(BitVec.toNat za.snd.fst) : Int)) (mrg (j.beq (↑a : Int).toNat) (rI (↑(BitVec.toNat za.fst) : Int)) (wel v j))))))]⟩) (cs := ((fun (c0 c1 c2 c3 c4 c5 c6 c7 c8 c9 c10 c11 c12 c13 : Prop) => [c0, c1, c2, c3, c4, c5, c6, c7, c8, c9, c10, c11, c12, c13, c8, c9, c10, c11, c12, c13, c0, c1, c2, c3, c4, c5, c6, c7]) _ _ _ _ _ _ _ _ _ _ _ _ _ _)) [] true ⟨q0_, q1_, q2_, q3_, q4_, q5_, q6_, q7_, q8_, q9_, q10_, q11_, q12_, q13_, q8_, q9_, q10_, q11_, q12_, q13_, q0_, q1_, q2_, q3_, q4_, q5_, q6_, q7_, trivial⟩ (by refine Says.rowEq (k := 0) rfl _ fun j hj => ?_; simp only [unw_w, mrg_eq, Int.toNat_natCast, Nat.beq_eq, wel, putM]; rw [getD_set _ _ _ _ (by simp; omega), getD_set _ _ _ _ (by simp; omega), getD_set _ _ _ _ (by simp; omega), getD_set _ _ _ _ (by omega)]; simp only [apply_ite iw]; rfl) hsim
theorem len_wl (n : Nat) (el : Nat → D) : (wl n el).length = n := by simp [wl]
theorem Q3_ok : OrcOK Tryd.prog Q3 := Q2_ok.add _ false mPut fun args H r H' cs h hc => by
 unfold mPut at h
 split at h
 ·
  rename_i a b c d x y T el
  cases h
  obtain ⟨h1, h2, h3, ⟨ha, hb, hc, hd⟩, _⟩ := hc
  have := put_ok T (wl 16 el) (len_wl _ _) a.toNat b.toNat c.toNat d.toNat (by omega) (by omega) (by omega) (by omega) (unw x) (unw y)
  unfold iw at this
  rw [← h2, ← h3, Int.toNat_of_nonneg ha.1, Int.toNat_of_nonneg (by omega), Int.toNat_of_nonneg (by omega), Int.toNat_of_nonneg (by omega)] at this
  exact this.rowArg h1
 · cases h
theorem row0_ok : Eng.Spec Tryd.prog gl 66 [.d (I 0)] [] (.d (.list 1 16 fun i => I (sg 0 i))) [] := by
 refine spec_fn Tryd.func66 rfl fun {w N E a0} hsim => ?_
 have _z : W := 0
 exact gs Q3_ok Tryd.func66 (sr' := ⟨0, [.d (.list 1 16 (segD false 1 (splice (splice (splice (splice (splice (splice (splice (splice (splice (splice (splice (splice (splice (splice (splice (splice (List.map (fun j => (List.map D.raw (Value.int IntKind.i64 (0 : Int)).cells.toList).getD (j % 1) default) (List.range 16)) 0 (rI 0).cells) 1 (rI 1).cells) 2 (rI 2).cells) 3 (rI 3).cells) 4 (rI 4).cells) 5 (rI 5).cells) 6 (rI 6).cells) 7 (rI 7).cells) 8 (rI 8).cells) 9 (rI 9).cells) 10 (rI 10).cells) 11 (rI 11).cells) 12 (rI 12).cells) 13 (rI 13).cells) 14 (rI 14).cells) 15 (rI 15).cells)))], []⟩) (cs := [(Ix 0 10), (0 < 10)]) [] true ⟨(by decide), (by decide), trivial⟩ (by refine Says.tmp (SaysD.list fun i hi => ?_); match i, hi with | 0, _ | 1, _ | 2, _ | 3, _ | 4, _ | 5, _ | 6, _ | 7, _ | 8, _ | 9, _ | 10, _ | 11, _ | 12, _ | 13, _ | 14, _ | 15, _ => rfl | i + 16, h => exact absurd h (by omega)) hsim
theorem row1_ok : Eng.Spec Tryd.prog gl 66 [.d (I 1)] [] (.d (.list 1 16 fun i => I (sg 1 i))) [] := by
 refine spec_fn Tryd.func66 rfl fun {w N E a0} hsim => ?_
 have _z : W := 0
 exact gs Q3_ok Tryd.func66 (sr' := ⟨0, [.d (.list 1 16 (segD false 1 (splice (splice (splice (splice (splice (splice (splice (splice (splice (splice (splice (splice (splice (splice (splice (splice (List.map (fun j => (List.map D.raw (Value.int IntKind.i64 (0 : Int)).cells.toList).getD (j % 1) default) (List.range 16)) 0 (rI 14).cells) 1 (rI 10).cells) 2 (rI 4).cells) 3 (rI 8).cells) 4 (rI 9).cells) 5 (rI 15).cells) 6 (rI 13).cells) 7 (rI 6).cells) 8 (rI 1).cells) 9 (rI 12).cells) 10 (rI 0).cells) 11 (rI 2).cells) 12 (rI 11).cells) 13 (rI 7).cells) 14 (rI 5).cells) 15 (rI 3).cells)))], []⟩) (cs := [(Ix 1 10), (1 < 10)]) [] true ⟨(by decide), (by decide), trivial⟩ (by refine Says.tmp (SaysD.list fun i hi => ?_); match i, hi with | 0, _ | 1, _ | 2, _ | 3, _ | 4, _ | 5, _ | 6, _ | 7, _ | 8, _ | 9, _ | 10, _ | 11, _ | 12, _ | 13, _ | 14, _ | 15, _ => rfl | i + 16, h => exact absurd h (by omega)) hsim
theorem row2_ok : Eng.Spec Tryd.prog gl 66 [.d (I 2)] [] (.d (.list 1 16 fun i => I (sg 2 i))) [] := by
 refine spec_fn Tryd.func66 rfl fun {w N E a0} hsim => ?_
 have _z : W := 0
 exact gs Q3_ok Tryd.func66 (sr' := ⟨0, [.d (.list 1 16 (segD false 1 (splice (splice (splice (splice (splice (splice (splice (splice (splice (splice (splice (splice (splice (splice (splice (splice (List.map (fun j => (List.map D.raw (Value.int IntKind.i64 (0 : Int)).cells.toList).getD (j % 1) default) (List.range 16)) 0 (rI 11).cells) 1 (rI 8).cells) 2 (rI 12).cells) 3 (rI 0).cells) 4 (rI 5).cells) 5 (rI 2).cells) 6 (rI 15).cells) 7 (rI 13).cells) 8 (rI 10).cells) 9 (rI 14).cells) 10 (rI 3).cells) 11 (rI 6).cells) 12 (rI 7).cells) 13 (rI 1).cells) 14 (rI 9).cells) 15 (rI 4).cells)))], []⟩) (cs := [(Ix 2 10), (2 < 10)]) [] true ⟨(by decide), (by decide), trivial⟩ (by refine Says.tmp (SaysD.list fun i hi => ?_); match i, hi with | 0, _ | 1, _ | 2, _ | 3, _ | 4, _ | 5, _ | 6, _ | 7, _ | 8, _ | 9, _ | 10, _ | 11, _ | 12, _ | 13, _ | 14, _ | 15, _ => rfl | i + 16, h => exact absurd h (by omega)) hsim
theorem row3_ok : Eng.Spec Tryd.prog gl 66 [.d (I 3)] [] (.d (.list 1 16 fun i => I (sg 3 i))) [] := by
 refine spec_fn Tryd.func66 rfl fun {w N E a0} hsim => ?_
 have _z : W := 0
 exact gs Q3_ok Tryd.func66 (sr' := ⟨0, [.d (.list 1 16 (segD false 1 (splice (splice (splice (splice (splice (splice (splice (splice (splice (splice (splice (splice (splice (splice (splice (splice (List.map (fun j => (List.map D.raw (Value.int IntKind.i64 (0 : Int)).cells.toList).getD (j % 1) default) (List.range 16)) 0 (rI 7).cells) 1 (rI 9).cells) 2 (rI 3).cells) 3 (rI 1).cells) 4 (rI 13).cells) 5 (rI 12).cells) 6 (rI 11).cells) 7 (rI 14).cells) 8 (rI 2).cells) 9 (rI 6).cells) 10 (rI 5).cells) 11 (rI 10).cells) 12 (rI 4).cells) 13 (rI 0).cells) 14 (rI 15).cells) 15 (rI 8).cells)))], []⟩) (cs := [(Ix 3 10), (3 < 10)]) [] true ⟨(by decide), (by decide), trivial⟩ (by refine Says.tmp (SaysD.list fun i hi => ?_); match i, hi with | 0, _ | 1, _ | 2, _ | 3, _ | 4, _ | 5, _ | 6, _ | 7, _ | 8, _ | 9, _ | 10, _ | 11, _ | 12, _ | 13, _ | 14, _ | 15, _ => rfl | i + 16, h => exact absurd h (by omega)) hsim
theorem row4_ok : Eng.Spec Tryd.prog gl 66 [.d (I 4)] [] (.d (.list 1 16 fun i => I (sg 4 i))) [] := by
 refine spec_fn Tryd.func66 rfl fun {w N E a0} hsim => ?_
 have _z : W := 0
 exact gs Q3_ok Tryd.func66 (sr' := ⟨0, [.d (.list 1 16 (segD false 1 (splice (splice (splice (splice (splice (splice (splice (splice (splice (splice (splice (splice (splice (splice (splice (splice (List.map (fun j => (List.map D.raw (Value.int IntKind.i64 (0 : Int)).cells.toList).getD (j % 1) default) (List.range 16)) 0 (rI 9).cells) 1 (rI 0).cells) 2 (rI 5).cells) 3 (rI 7).cells) 4 (rI 2).cells) 5 (rI 4).cells) 6 (rI 10).cells) 7 (rI 15).cells) 8 (rI 14).cells) 9 (rI 1).cells) 10 (rI 11).cells) 11 (rI 12).cells) 12 (rI 6).cells) 13 (rI 8).cells) 14 (rI 3).cells) 15 (rI 13).cells)))], []⟩) (cs := [(Ix 4 10), (4 < 10)]) [] true ⟨(by decide), (by decide), trivial⟩ (by refine Says.tmp (SaysD.list fun i hi => ?_); match i, hi with | 0, _ | 1, _ | 2, _ | 3, _ | 4, _ | 5, _ | 6, _ | 7, _ | 8, _ | 9, _ | 10, _ | 11, _ | 12, _ | 13, _ | 14, _ | 15, _ => rfl | i + 16, h => exact absurd h (by omega)) hsim
theorem row5_ok : Eng.Spec Tryd.prog gl 66 [.d (I 5)] [] (.d (.list 1 16 fun i => I (sg 5 i))) [] := by
 refine spec_fn Tryd.func66 rfl fun {w N E a0} hsim => ?_
 have _z : W := 0
 exact gs Q3_ok Tryd.func66 (sr' := ⟨0, [.d (.list 1 16 (segD false 1 (splice (splice (splice (splice (splice (splice (splice (splice (splice (splice (splice (splice (splice (splice (splice (splice (List.map (fun j => (List.map D.raw (Value.int IntKind.i64 (0 : Int)).cells.toList).getD (j % 1) default) (List.range 16)) 0 (rI 2).cells) 1 (rI 12).cells) 2 (rI 6).cells) 3 (rI 10).cells) 4 (rI 0).cells) 5 (rI 11).cells) 6 (rI 8).cells) 7 (rI 3).cells) 8 (rI 4).cells) 9 (rI 13).cells) 10 (rI 7).cells) 11 (rI 5).cells) 12 (rI 15).cells) 13 (rI 14).cells) 14 (rI 1).cells) 15 (rI 9).cells)))], []⟩) (cs := [(Ix 5 10), (5 < 10)]) [] true ⟨(by decide), (by decide), trivial⟩ (by refine Says.tmp (SaysD.list fun i hi => ?_); match i, hi with | 0, _ | 1, _ | 2, _ | 3, _ | 4, _ | 5, _ | 6, _ | 7, _ | 8, _ | 9, _ | 10, _ | 11, _ | 12, _ | 13, _ | 14, _ | 15, _ => rfl | i + 16, h => exact absurd h (by omega)) hsim
theorem row6_ok : Eng.Spec Tryd.prog gl 66 [.d (I 6)] [] (.d (.list 1 16 fun i => I (sg 6 i))) [] := by
 refine spec_fn Tryd.func66 rfl fun {w N E a0} hsim => ?_
 have _z : W := 0
 exact gs Q3_ok Tryd.func66 (sr' := ⟨0, [.d (.list 1 16 (segD false 1 (splice (splice (splice (splice (splice (splice (splice (splice (splice (splice (splice (splice (splice (splice (splice (splice (List.map (fun j => (List.map D.raw (Value.int IntKind.i64 (0 : Int)).cells.toList).getD (j % 1) default) (List.range 16)) 0 (rI 12).cells) 1 (rI 5).cells) 2 (rI 1).cells) 3 (rI 15).cells) 4 (rI 14).cells) 5 (rI 13).cells) 6 (rI 4).cells) 7 (rI 10).cells) 8 (rI 0).cells) 9 (rI 7).cells) 10 (rI 6).cells) 11 (rI 3).cells) 12 (rI 9).cells) 13 (rI 2).cells) 14 (rI 8).cells) 15 (rI 11).cells)))], []⟩) (cs := [(Ix 6 10), (6 < 10)]) [] true ⟨(by decide), (by decide), trivial⟩ (by refine Says.tmp (SaysD.list fun i hi => ?_); match i, hi with | 0, _ | 1, _ | 2, _ | 3, _ | 4, _ | 5, _ | 6, _ | 7, _ | 8, _ | 9, _ | 10, _ | 11, _ | 12, _ | 13, _ | 14, _ | 15, _ => rfl | i + 16, h => exact absurd h (by omega)) hsim
theorem row7_ok : Eng.Spec Tryd.prog gl 66 [.d (I 7)] [] (.d (.list 1 16 fun i => I (sg 7 i))) [] := by
 refine spec_fn Tryd.func66 rfl fun {w N E a0} hsim => ?_
 have _z : W := 0
 exact gs Q3_ok Tryd.func66 (sr' := ⟨0, [.d (.list 1 16 (segD false 1 (splice (splice (splice (splice (splice (splice (splice (splice (splice (splice (splice (splice (splice (splice (splice (splice (List.map (fun j => (List.map D.raw (Value.int IntKind.i64 (0 : Int)).cells.toList).getD (j % 1) default) (List.range 16)) 0 (rI 13).cells) 1 (rI 11).cells) 2 (rI 7).cells) 3 (rI 14).cells) 4 (rI 12).cells) 5 (rI 1).cells) 6 (rI 3).cells) 7 (rI 9).cells) 8 (rI 5).cells) 9 (rI 0).cells) 10 (rI 15).cells) 11 (rI 4).cells) 12 (rI 8).cells) 13 (rI 6).cells) 14 (rI 2).cells) 15 (rI 10).cells)))], []⟩) (cs := [(Ix 7 10), (7 < 10)]) [] true ⟨(by decide), (by decide), trivial⟩ (by refine Says.tmp (SaysD.list fun i hi => ?_); match i, hi with | 0, _ | 1, _ | 2, _ | 3, _ | 4, _ | 5, _ | 6, _ | 7, _ | 8, _ | 9, _ | 10, _ | 11, _ | 12, _ | 13, _ | 14, _ | 15, _ => rfl | i + 16, h => exact absurd h (by omega)) hsim
theorem row8_ok : Eng.Spec Tryd.prog gl 66 [.d (I 8)] [] (.d (.list 1 16 fun i => I (sg 8 i))) [] := by
 refine spec_fn Tryd.func66 rfl fun {w N E a0} hsim => ?_
 have _z : W := 0
 exact gs Q3_ok Tryd.func66 (sr' := ⟨0, [.d (.list 1 16 (segD false 1 (splice (splice (splice (splice (splice (splice (splice (splice (splice (splice (splice (splice (splice (splice (splice (splice (List.map (fun j => (List.map D.raw (Value.int IntKind.i64 (0 : Int)).cells.toList).getD (j % 1) default) (List.range 16)) 0 (rI 6).cells) 1 (rI 15).cells) 2 (rI 14).cells) 3 (rI 9).cells) 4 (rI 11).cells) 5 (rI 3).cells) 6 (rI 0).cells) 7 (rI 8).cells) 8 (rI 12).cells) 9 (rI 2).cells) 10 (rI 13).cells) 11 (rI 7).cells) 12 (rI 1).cells) 13 (rI 4).cells) 14 (rI 10).cells) 15 (rI 5).cells)))], []⟩) (cs := [(Ix 8 10), (8 < 10)]) [] true ⟨(by decide), (by decide), trivial⟩ (by refine Says.tmp (SaysD.list fun i hi => ?_); match i, hi with | 0, _ | 1, _ | 2, _ | 3, _ | 4, _ | 5, _ | 6, _ | 7, _ | 8, _ | 9, _ | 10, _ | 11, _ | 12, _ | 13, _ | 14, _ | 15, _ => rfl | i + 16, h => exact absurd h (by omega)) hsim
theorem row9_ok : Eng.Spec Tryd.prog gl 66 [.d (I 9)] [] (.d (.list 1 16 fun i => I (sg 9 i))) [] := by
 refine spec_fn Tryd.func66 rfl fun {w N E a0} hsim => ?_
 have _z : W := 0
 exact gs Q3_ok Tryd.func66 (sr' := ⟨0, [.d (.list 1 16 (segD false 1 (splice (splice (splice (splice (splice (splice (splice (splice (splice (splice (splice (splice (splice (splice (splice (splice (List.map (fun j => (List.map D.raw (Value.int IntKind.i64 (0 : Int)).cells.toList).getD (j % 1) default) (List.range 16)) 0 (rI 10).cells) 1 (rI 2).cells) 2 (rI 8).cells) 3 (rI 4).cells) 4 (rI 7).cells) 5 (rI 6).cells) 6 (rI 1).cells) 7 (rI 5).cells) 8 (rI 15).cells) 9 (rI 11).cells) 10 (rI 9).cells) 11 (rI 14).cells) 12 (rI 3).cells) 13 (rI 12).cells) 14 (rI 13).cells) 15 (rI 0).cells)))], []⟩) (cs := [(Ix 9 10), (9 < 10)]) [] true ⟨(by decide), (by decide), trivial⟩ (by refine Says.tmp (SaysD.list fun i hi => ?_); match i, hi with | 0, _ | 1, _ | 2, _ | 3, _ | 4, _ | 5, _ | 6, _ | 7, _ | 8, _ | 9, _ | 10, _ | 11, _ | 12, _ | 13, _ | 14, _ | 15, _ => rfl | i + 16, h => exact absurd h (by omega)) hsim
theorem Q4_ok : OrcOK Tryd.prog Q4 := Q3_ok.add _ false mRow fun args H r H' cs h hc => by
 unfold mRow at h
 split at h
 ·
  rename_i n
  cases h
  obtain ⟨h1, _⟩ := hc
  have : n = 0 ∨ n = 1 ∨ n = 2 ∨ n = 3 ∨ n = 4 ∨ n = 5 ∨ n = 6 ∨ n = 7 ∨ n = 8 ∨ n = 9 := by omega
  rcases this with rfl | rfl | rfl | rfl | rfl | rfl | rfl | rfl | rfl | rfl
  · exact row0_ok
  · exact row1_ok
  · exact row2_ok
  · exact row3_ok
  · exact row4_ok
  · exact row5_ok
  · exact row6_ok
  · exact row7_ok
  · exact row8_ok
  · exact row9_ok
 · cases h
theorem iv_ok : Eng.Spec Tryd.prog gl 60 [] [] (.own 0) [(0, .row 3 1 8 (wel ivM))] := by
 refine spec_fn Tryd.func60 rfl fun {w N E a0} hsim => ?_
 have _z : W := 0
 exact gs Q4_ok Tryd.func60 (sr' := ⟨0, [.own 0], [(0, .row 3 1 8 (segD false 1 (splice (splice (splice (splice (splice (splice (splice (splice (List.map (fun j => (List.map D.raw (Value.int IntKind.i64 (0 : Int)).cells.toList).getD (j % 1) default) (List.range 8)) 0 (rI 1779033703).cells) 1 (rI 3144134277).cells) 2 (rI 1013904242).cells) 3 (rI 2773480762).cells) 4 (rI 1359893119).cells) 5 (rI 2600822924).cells) 6 (rI 528734635).cells) 7 (rI 1541459225).cells)))]⟩) (cs := []) [] false trivial (by refine Says.rowEq (k := 0) rfl _ fun j hj => ?_; match j, hj with | 0, _ | 1, _ | 2, _ | 3, _ | 4, _ | 5, _ | 6, _ | 7, _ => rfl | j + 8, h => exact absurd h (by omega)) hsim
theorem Q5_ok : OrcOK Tryd.prog Q5 := Q4_ok.add _ false mIv fun args H r H' cs h hc => by
 unfold mIv at h
 split at h
 · cases h; exact iv_ok
 · cases h
end Go.Bla
