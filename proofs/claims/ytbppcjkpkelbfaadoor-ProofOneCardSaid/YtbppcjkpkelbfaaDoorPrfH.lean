/-
  Contracts of given functions, or plain laws that they need. No condition.
-/
import Derived.Test.YtbppcjkpkelbfaaDoorTabP
import Derived.Test.YtbppcjkpkelbfaaDoorEng0
import Derived.Test.YtbppcjkpkelbfaaDoorProg
namespace Go.Prf
open Go Go.Eng Go.Tab Go.Plc
set_option linter.unusedVariables false
def tbB (k : Nat) (T : T4) : List (Nat × Th) := [(k, .obj 112 [.ref (k + 1) 0, .ref (k + 3) 0, .ref (k + 5) 0, .ref (k + 7) 0]), (k + 1, tobj (k + 2)), (k + 2, trow T.a), (k + 3, tobj (k + 4)), (k + 4, trow T.b), (k + 5, tobj (k + 6)), (k + 6, trow T.c), (k + 7, tobj (k + 8)), (k + 8, trow T.d)]
def rp1 (l : List OpT) (T : T4) (acc : List An) (n i : Int) : St := mk 0 22 [(3, .ref 0 0), (4, .own 9), (8, .d (.list 4 l.length (opEl l))), (9, .d (.raw (.int .i64 n))), (10, .d (.raw (.int .i64 i)))] (tbB 0 T ++ [(9, .row 49 2 acc.length (anEl acc))])
def fm1 (L cs : List Ca) (n i : Int) : St := mk 0 102 [(3, .mp 0), (9, .d (.list 10 cs.length (caEl cs))), (10, .d (.raw (.int .i64 n))), (11, .d (.raw (.int .i64 i)))] [(0, .mp (lastMp L))]
def or1 (L : List Ca) (ps S : List Pt) (now n i : Int) : St := mk 1 66 [(0, .mp 0), (5, .mp 1), (6, .d (.raw (.int .i64 now))), (12, .d (.list 5 ps.length (ptEl ps))), (13, .d (.raw (.int .i64 n))), (14, .d (.raw (.int .i64 i)))] [(0, .mp (knowMp L)), (1, .mp (seenMp S))]
def aw1 (cs : List Ca) (ps S : List Pt) (n i : Int) : St := mk 0 40 [(0, .d (.list 10 cs.length (caEl cs))), (5, .mp 0), (11, .d (.list 5 ps.length (ptEl ps))), (12, .d (.raw (.int .i64 n))), (13, .d (.raw (.int .i64 i)))] [(0, .mp (seenMp S))]
def td1 (L : List Ca) (ps : List Pt) (T : T4) (n i : Int) : St := mk 1 43 [(0, .mp 0), (5, .ref 1 0), (11, .d (.list 5 ps.length (ptEl ps))), (12, .d (.raw (.int .i64 n))), (13, .d (.raw (.int .i64 i)))] ([(0, .mp (knowMp L))] ++ tbB 1 T)
end Go.Prf

namespace Go.Bla
open Go
abbrev tN (x : W) : Int := (x.toNat : Int)
abbrev tL (x0 x1 x2 x3 x4 x5 x6 x7 x8 x9 x10 x11 x12 x13 x14 x15 : W) : List Int := [tN x0, tN x1, tN x2, tN x3, tN x4, tN x5, tN x6, tN x7, tN x8, tN x9, tN x10, tN x11, tN x12, tN x13, tN x14, tN x15]
abbrev b64 (b : Nat → Int) : List Go.Eng.D := [Go.Eng.D.raw (Value.int IntKind.u8 (b 0)), Go.Eng.D.raw (Value.int IntKind.u8 (b 1)), Go.Eng.D.raw (Value.int IntKind.u8 (b 2)), Go.Eng.D.raw (Value.int IntKind.u8 (b 3)), Go.Eng.D.raw (Value.int IntKind.u8 (b 4)), Go.Eng.D.raw (Value.int IntKind.u8 (b 5)), Go.Eng.D.raw (Value.int IntKind.u8 (b 6)), Go.Eng.D.raw (Value.int IntKind.u8 (b 7)), Go.Eng.D.raw (Value.int IntKind.u8 (b 8)), Go.Eng.D.raw (Value.int IntKind.u8 (b 9)), Go.Eng.D.raw (Value.int IntKind.u8 (b 10)), Go.Eng.D.raw (Value.int IntKind.u8 (b 11)), Go.Eng.D.raw (Value.int IntKind.u8 (b 12)), Go.Eng.D.raw (Value.int IntKind.u8 (b 13)), Go.Eng.D.raw (Value.int IntKind.u8 (b 14)), Go.Eng.D.raw (Value.int IntKind.u8 (b 15)), Go.Eng.D.raw (Value.int IntKind.u8 (b 16)), Go.Eng.D.raw (Value.int IntKind.u8 (b 17)), Go.Eng.D.raw (Value.int IntKind.u8 (b 18)), Go.Eng.D.raw (Value.int IntKind.u8 (b 19)), Go.Eng.D.raw (Value.int IntKind.u8 (b 20)), Go.Eng.D.raw (Value.int IntKind.u8 (b 21)), Go.Eng.D.raw (Value.int IntKind.u8 (b 22)), Go.Eng.D.raw (Value.int IntKind.u8 (b 23)), Go.Eng.D.raw (Value.int IntKind.u8 (b 24)), Go.Eng.D.raw (Value.int IntKind.u8 (b 25)), Go.Eng.D.raw (Value.int IntKind.u8 (b 26)), Go.Eng.D.raw (Value.int IntKind.u8 (b 27)), Go.Eng.D.raw (Value.int IntKind.u8 (b 28)), Go.Eng.D.raw (Value.int IntKind.u8 (b 29)), Go.Eng.D.raw (Value.int IntKind.u8 (b 30)), Go.Eng.D.raw (Value.int IntKind.u8 (b 31)), Go.Eng.D.raw (Value.int IntKind.u8 (b 32)), Go.Eng.D.raw (Value.int IntKind.u8 (b 33)), Go.Eng.D.raw (Value.int IntKind.u8 (b 34)), Go.Eng.D.raw (Value.int IntKind.u8 (b 35)), Go.Eng.D.raw (Value.int IntKind.u8 (b 36)), Go.Eng.D.raw (Value.int IntKind.u8 (b 37)), Go.Eng.D.raw (Value.int IntKind.u8 (b 38)), Go.Eng.D.raw (Value.int IntKind.u8 (b 39)), Go.Eng.D.raw (Value.int IntKind.u8 (b 40)), Go.Eng.D.raw (Value.int IntKind.u8 (b 41)), Go.Eng.D.raw (Value.int IntKind.u8 (b 42)), Go.Eng.D.raw (Value.int IntKind.u8 (b 43)), Go.Eng.D.raw (Value.int IntKind.u8 (b 44)), Go.Eng.D.raw (Value.int IntKind.u8 (b 45)), Go.Eng.D.raw (Value.int IntKind.u8 (b 46)), Go.Eng.D.raw (Value.int IntKind.u8 (b 47)), Go.Eng.D.raw (Value.int IntKind.u8 (b 48)), Go.Eng.D.raw (Value.int IntKind.u8 (b 49)), Go.Eng.D.raw (Value.int IntKind.u8 (b 50)), Go.Eng.D.raw (Value.int IntKind.u8 (b 51)), Go.Eng.D.raw (Value.int IntKind.u8 (b 52)), Go.Eng.D.raw (Value.int IntKind.u8 (b 53)), Go.Eng.D.raw (Value.int IntKind.u8 (b 54)), Go.Eng.D.raw (Value.int IntKind.u8 (b 55)), Go.Eng.D.raw (Value.int IntKind.u8 (b 56)), Go.Eng.D.raw (Value.int IntKind.u8 (b 57)), Go.Eng.D.raw (Value.int IntKind.u8 (b 58)), Go.Eng.D.raw (Value.int IntKind.u8 (b 59)), Go.Eng.D.raw (Value.int IntKind.u8 (b 60)), Go.Eng.D.raw (Value.int IntKind.u8 (b 61)), Go.Eng.D.raw (Value.int IntKind.u8 (b 62)), Go.Eng.D.raw (Value.int IntKind.u8 (b 63))]
abbrev bI (x : Int) : BitVec 32 := BitVec.ofInt 32 x
abbrev wU (x : Int) : Int := IntKind.u32.wrap x
abbrev tH (h0 h1 h2 h3 h4 h5 h6 h7 : W) : List W := List.map unw [tN h0, tN h1, tN h2, tN h3, tN h4, tN h5, tN h6, tN h7]
end Go.Bla

namespace Go.Bla
open Go Go.Eng Go.Proofs
set_option linter.unusedVariables false
set_option maxRecDepth 100000
theorem rot_ok (x : W) (k : Int) (n : Nat) (hk : (k = -16 ∧ n = 16) ∨ (k = -12 ∧ n = 12) ∨ (k = -8 ∧ n = 8) ∨ (k = -7 ∧ n = 7)) : Eng.Spec Tryd.prog gl 77 [av x, .d (I k)] [] (av (x.rotateRight n)) [] := by
  refine spec_fn Tryd.func77 rfl fun {w N E a} hsim => ?_
  exact gr (OrcOK.none gl) Tryd.func77 (sr' := let za := (↑(BitVec.ofInt 64 (IntKind.u64.wrap k) &&& BitVec.ofInt 64 (31 : Int)).toNat : Int); ⟨0, [.d (.raw (.int .u32 (IntKind.u32.wrap (↑(BitVec.ofInt 32 (IntKind.u32.wrap ((↑(BitVec.toNat x) : Int) * (2 : Int) ^ min (IntKind.u64.wrap za).toNat 32)) ||| BitVec.ofInt 32 ((↑(BitVec.toNat x) : Int).fdiv ((2 : Int) ^ min (IntKind.u64.wrap ((32 : Int) - IntKind.u64.wrap za)).toNat 32))).toNat : Int))))], []⟩) (cs := [((0 : Int) ≤ IntKind.u64.wrap (↑(BitVec.ofInt 64 (IntKind.u64.wrap k) &&& BitVec.ofInt 64 (31 : Int)).toNat : Int)), ((0 : Int) ≤ IntKind.u64.wrap ((32 : Int) - IntKind.u64.wrap (↑(BitVec.ofInt 64 (IntKind.u64.wrap k) &&& BitVec.ofInt 64 (31 : Int)).toNat : Int)))]) [] true ⟨(by rw [wrap_u64]; omega), (by rw [wrap_u64]; omega), trivial⟩ (by rcases hk with ⟨rfl, rfl⟩ | ⟨rfl, rfl⟩ | ⟨rfl, rfl⟩ | ⟨rfl, rfl⟩ <;> exact Eq.trans (by kernel_rfl) (congrArg (fun z => (⟨0, [.d (.raw (.int .u32 z))], []⟩ : St)) (rot_eq x _ (by decide)))) hsim
theorem O1_ok : OrcOK Tryd.prog O1 := (OrcOK.none gl).add _ false mRot fun args H r H' cs h hc => by
  unfold mRot at h
  split at h
  · rename_i x k
    cases h
    obtain ⟨h1, h2, _⟩ := hc
    have := rot_ok (unw x) k (-k).toNat (by omega)
    refine this.args fun hv => VAs_imp_cons (fun v hx => ?_) (fun vs h => VAs_imp_cons (fun v hx => ?_) (fun _ h => h) h) hv
    · rw [h1] at hx; exact hx
    · exact hx
  · cases h
theorem half_ok (a b c d w' : W) (p q : Int) (hpq : (p = 16 ∧ q = 12) ∨ (p = 8 ∧ q = 7)) : Eng.Spec Tryd.prog gl 73 [.d (lane (a, b, c, d)), av w', .d (I p), .d (I q)] [] (.d (lane (half a b c d w' p.toNat q.toNat))) [] := by
  refine spec_fn Tryd.func73 rfl fun {w N E a0} hsim => ?_
  exact gr O1_ok Tryd.func73 (sr' := let zb := IntKind.u32.wrap (IntKind.u32.wrap ((↑(BitVec.toNat a) : Int) + (↑(BitVec.toNat b) : Int)) + (↑(BitVec.toNat w') : Int)); let za := (↑(BitVec.rotateRight (unw (IntKind.u32.wrap (↑(BitVec.ofInt 32 (↑(BitVec.toNat d) : Int) ^^^ BitVec.ofInt 32 zb).toNat : Int))) (-IntKind.i64.wrap ((0 : Int) - p)).toNat).toNat : Int); ⟨0, [.d (.agg [.raw (.int .u32 zb), .raw (.int .u32 ((↑(BitVec.rotateRight (unw (IntKind.u32.wrap (↑(BitVec.ofInt 32 (↑(BitVec.toNat b) : Int) ^^^ BitVec.ofInt 32 (IntKind.u32.wrap ((↑(BitVec.toNat c) : Int) + za))).toNat : Int))) (-IntKind.i64.wrap ((0 : Int) - q)).toNat).toNat : Int))), .raw (.int .u32 (IntKind.u32.wrap ((↑(BitVec.toNat c) : Int) + za))), .raw (.int .u32 (za))])], []⟩) (cs := [(Ix 0 4), (Ix 1 4), (Ix 3 4), (IntKind.u32.wrap (↑(BitVec.ofInt 32 (↑(BitVec.toNat d) : Int) ^^^ BitVec.ofInt 32 (IntKind.u32.wrap (IntKind.u32.wrap ((↑(BitVec.toNat a) : Int) + (↑(BitVec.toNat b) : Int)) + (↑(BitVec.toNat w') : Int)))).toNat : Int) = (↑(BitVec.toNat (unw (IntKind.u32.wrap (↑(BitVec.ofInt 32 (↑(BitVec.toNat d) : Int) ^^^ BitVec.ofInt 32 (IntKind.u32.wrap (IntKind.u32.wrap ((↑(BitVec.toNat a) : Int) + (↑(BitVec.toNat b) : Int)) + (↑(BitVec.toNat w') : Int)))).toNat : Int)))) : Int)), (IntKind.i64.wrap ((0 : Int) - p) = (-16 : Int) ∨ IntKind.i64.wrap ((0 : Int) - p) = (-12 : Int) ∨ IntKind.i64.wrap ((0 : Int) - p) = (-8 : Int) ∨ IntKind.i64.wrap ((0 : Int) - p) = (-7 : Int)), (Ix 2 4), (Ix 1 4), (IntKind.u32.wrap (↑(BitVec.ofInt 32 (↑(BitVec.toNat b) : Int) ^^^ BitVec.ofInt 32 (IntKind.u32.wrap ((↑(BitVec.toNat c) : Int) + (↑(BitVec.rotateRight (unw (IntKind.u32.wrap (↑(BitVec.ofInt 32 (↑(BitVec.toNat d) : Int) ^^^ BitVec.ofInt 32 (IntKind.u32.wrap (IntKind.u32.wrap ((↑(BitVec.toNat a) : Int) + (↑(BitVec.toNat b) : Int)) + (↑(BitVec.toNat w') : Int)))).toNat : Int))) (-IntKind.i64.wrap ((0 : Int) - p)).toNat).toNat : Int)))).toNat : Int) = (↑(BitVec.toNat (unw (IntKind.u32.wrap (↑(BitVec.ofInt 32 (↑(BitVec.toNat b) : Int) ^^^ BitVec.ofInt 32 (IntKind.u32.wrap ((↑(BitVec.toNat c) : Int) + (↑(BitVec.rotateRight (unw (IntKind.u32.wrap (↑(BitVec.ofInt 32 (↑(BitVec.toNat d) : Int) ^^^ BitVec.ofInt 32 (IntKind.u32.wrap (IntKind.u32.wrap ((↑(BitVec.toNat a) : Int) + (↑(BitVec.toNat b) : Int)) + (↑(BitVec.toNat w') : Int)))).toNat : Int))) (-IntKind.i64.wrap ((0 : Int) - p)).toNat).toNat : Int)))).toNat : Int)))) : Int)), (IntKind.i64.wrap ((0 : Int) - q) = (-16 : Int) ∨ IntKind.i64.wrap ((0 : Int) - q) = (-12 : Int) ∨ IntKind.i64.wrap ((0 : Int) - q) = (-8 : Int) ∨ IntKind.i64.wrap ((0 : Int) - q) = (-7 : Int))]) ((List.replicate 5 true)) true ⟨(by decide), (by decide), (by decide), (by (first | (simp only [add_eq, xor_eq, unw_w]; done) | (rcases hpq with ⟨rfl, rfl⟩ | ⟨rfl, rfl⟩ <;> decide))), (by (first | (simp only [add_eq, xor_eq, unw_w]; done) | (rcases hpq with ⟨rfl, rfl⟩ | ⟨rfl, rfl⟩ <;> decide))), (by decide), (by decide), (by (first | (simp only [add_eq, xor_eq, unw_w]; done) | (rcases hpq with ⟨rfl, rfl⟩ | ⟨rfl, rfl⟩ <;> decide))), (by (first | (simp only [add_eq, xor_eq, unw_w]; done) | (rcases hpq with ⟨rfl, rfl⟩ | ⟨rfl, rfl⟩ <;> decide))), trivial⟩ (by rcases hpq with ⟨rfl, rfl⟩ | ⟨rfl, rfl⟩ <;> simp only [add_eq, xor_eq, unw_w] <;> rfl) hsim
theorem O2_ok : OrcOK Tryd.prog O2 := O1_ok.add _ false mHalf fun args H r H' cs h hc => by
  unfold mHalf at h
  split at h
  · rename_i a b c d w p q
    cases h
    obtain ⟨h1, h2, h3, h4, h5, h6, _⟩ := hc
    have := half_ok (unw a) (unw b) (unw c) (unw d) (unw w) p q h6
    refine this.args fun hv => ?_
    rw [h1, h2, h3, h4, h5] at hv
    exact hv
  · cases h
end Go.Bla

namespace Go.Bla
open Go Go.Eng Go.Proofs
set_option linter.unusedVariables false
set_option maxRecDepth 100000
set_option maxHeartbeats 4000000
theorem nib_of {row : ByteArray} {j : Nat} (h : HexRow row) (hj : j < 16) : (decide (IntKind.u8.wrap (byteAt row j - 48) > 9) = true → (IntKind.u8.wrap (IntKind.u8.wrap (byteAt row j - 97) + 10)).toNat = nib row j ∧ 0 ≤ IntKind.u8.wrap (IntKind.u8.wrap (byteAt row j - 97) + 10) ∧ IntKind.u8.wrap (IntKind.u8.wrap (byteAt row j - 97) + 10) < 16) ∧
    (decide (IntKind.u8.wrap (byteAt row j - 48) > 9) = false → (IntKind.u8.wrap (byteAt row j - 48)).toNat = nib row j ∧ 0 ≤ IntKind.u8.wrap (byteAt row j - 48) ∧ IntKind.u8.wrap (byteAt row j - 48) < 16) := by
  have := h.2 j hj
  unfold nib
  simp only [wrap_u8, decide_eq_true_eq, decide_eq_false_iff_not]
  constructor
  · intro h1
    rw [if_pos h1]
    refine ⟨?_, by omega, by omega⟩
    have e : ((byteAt row j - 97) % 256 + 10) % 256 = (byteAt row j - 97) % 256 + 10 := by omega
    rw [e]; omega
  · intro h1
    rw [if_neg h1]
    refine ⟨rfl, by omega, by omega⟩
theorem getD_av (l : List W) (k : Nat) : (l.map fun x => (x.toNat : Int)).getD k 0 = ((l.getD k 0).toNat : Int) := by
  rw [List.getD_eq_getElem?_getD, List.getD_eq_getElem?_getD, List.getElem?_map]
  cases l[k]? <;> simp
theorem dig_ok (m0 m1 m2 m3 m4 m5 m6 m7 m8 m9 m10 m11 m12 m13 m14 m15 : W) (T : Nat) (row : ByteArray) (j : Int) (hr : HexRow row) (hj : 0 ≤ j ∧ j < 16) : Eng.Spec Tryd.prog gl 74 [.ref 0 0, .d (.raw (.string row)), .d (I j)] [(0, .obj T (words [m0, m1, m2, m3, m4, m5, m6, m7, m8, m9, m10, m11, m12, m13, m14, m15]))] (av ([m0, m1, m2, m3, m4, m5, m6, m7, m8, m9, m10, m11, m12, m13, m14, m15].getD (nib row j.toNat) 0)) [(0, .obj T (words [m0, m1, m2, m3, m4, m5, m6, m7, m8, m9, m10, m11, m12, m13, m14, m15]))] := by
  refine spec_fn Tryd.func74 rfl fun {w N E a0} hsim => ?_
  have hn := nib_of hr (j := j.toNat) (by omega)
  have hsz := hr.1
  have hg := fun k => getD_av [m0, m1, m2, m3, m4, m5, m6, m7, m8, m9, m10, m11, m12, m13, m14, m15] k
  simp only [List.map_cons, List.map_nil] at hg
  rcases bd (decide (IntKind.u8.wrap (byteAt row j.toNat - (48 : Int)) > (9 : Int))) with hb1 | hb1
  ·
   have q0_ : ((0 : Int) ≤ j ∧ j < (↑row.size : Int)) := (by first | omega | exact hr | (have := hn.1 ‹_›; omega) | (have := hn.2 ‹_›; omega))
   exact gr O2_ok Tryd.func74 (sr' := ⟨1, [.d (.raw (.int .u32 ([(↑(BitVec.toNat m0) : Int), (↑(BitVec.toNat m1) : Int), (↑(BitVec.toNat m2) : Int), (↑(BitVec.toNat m3) : Int), (↑(BitVec.toNat m4) : Int), (↑(BitVec.toNat m5) : Int), (↑(BitVec.toNat m6) : Int), (↑(BitVec.toNat m7) : Int), (↑(BitVec.toNat m8) : Int), (↑(BitVec.toNat m9) : Int), (↑(BitVec.toNat m10) : Int), (↑(BitVec.toNat m11) : Int), (↑(BitVec.toNat m12) : Int), (↑(BitVec.toNat m13) : Int), (↑(BitVec.toNat m14) : Int), (↑(BitVec.toNat m15) : Int)].getD (IntKind.u8.wrap (IntKind.u8.wrap (byteAt row j.toNat - 97) + 10)).toNat (0 : Int))))], [(0, .obj T [.d (.raw (.int .u32 ((↑(BitVec.toNat m0) : Int)))), .d (.raw (.int .u32 ((↑(BitVec.toNat m1) : Int)))), .d (.raw (.int .u32 ((↑(BitVec.toNat m2) : Int)))), .d (.raw (.int .u32 ((↑(BitVec.toNat m3) : Int)))), .d (.raw (.int .u32 ((↑(BitVec.toNat m4) : Int)))), .d (.raw (.int .u32 ((↑(BitVec.toNat m5) : Int)))), .d (.raw (.int .u32 ((↑(BitVec.toNat m6) : Int)))), .d (.raw (.int .u32 ((↑(BitVec.toNat m7) : Int)))), .d (.raw (.int .u32 ((↑(BitVec.toNat m8) : Int)))), .d (.raw (.int .u32 ((↑(BitVec.toNat m9) : Int)))), .d (.raw (.int .u32 ((↑(BitVec.toNat m10) : Int)))), .d (.raw (.int .u32 ((↑(BitVec.toNat m11) : Int)))), .d (.raw (.int .u32 ((↑(BitVec.toNat m12) : Int)))), .d (.raw (.int .u32 ((↑(BitVec.toNat m13) : Int)))), .d (.raw (.int .u32 ((↑(BitVec.toNat m14) : Int)))), .d (.raw (.int .u32 ((↑(BitVec.toNat m15) : Int))))])]⟩) (cs := ((fun (c0 : Prop) => [c0, _, c0, ((0 : Int) ≤ IntKind.u8.wrap (IntKind.u8.wrap (byteAt row j.toNat - 97) + 10) ∧ IntKind.u8.wrap (IntKind.u8.wrap (byteAt row j.toNat - 97) + 10) < (16 : Int)), ((IntKind.u8.wrap (IntKind.u8.wrap (byteAt row j.toNat - 97) + 10)).toNat < 16)]) _)) [true, false] true ⟨q0_, hb1, q0_, (by first | omega | exact hr | (have := hn.1 ‹_›; omega) | (have := hn.2 ‹_›; omega)), (by first | omega | exact hr | (have := hn.1 ‹_›; omega) | (have := hn.2 ‹_›; omega)), trivial⟩ (by first | (rw [(hn.1 hb1).1, hg]; rfl) | (rw [(hn.2 hb1).1, hg]; rfl)) hsim
  ·
   exact gr O2_ok Tryd.func74 (sr' := ⟨1, [.d (.raw (.int .u32 ([(↑(BitVec.toNat m0) : Int), (↑(BitVec.toNat m1) : Int), (↑(BitVec.toNat m2) : Int), (↑(BitVec.toNat m3) : Int), (↑(BitVec.toNat m4) : Int), (↑(BitVec.toNat m5) : Int), (↑(BitVec.toNat m6) : Int), (↑(BitVec.toNat m7) : Int), (↑(BitVec.toNat m8) : Int), (↑(BitVec.toNat m9) : Int), (↑(BitVec.toNat m10) : Int), (↑(BitVec.toNat m11) : Int), (↑(BitVec.toNat m12) : Int), (↑(BitVec.toNat m13) : Int), (↑(BitVec.toNat m14) : Int), (↑(BitVec.toNat m15) : Int)].getD (IntKind.u8.wrap (byteAt row j.toNat - 48)).toNat (0 : Int))))], [(0, .obj T [.d (.raw (.int .u32 ((↑(BitVec.toNat m0) : Int)))), .d (.raw (.int .u32 ((↑(BitVec.toNat m1) : Int)))), .d (.raw (.int .u32 ((↑(BitVec.toNat m2) : Int)))), .d (.raw (.int .u32 ((↑(BitVec.toNat m3) : Int)))), .d (.raw (.int .u32 ((↑(BitVec.toNat m4) : Int)))), .d (.raw (.int .u32 ((↑(BitVec.toNat m5) : Int)))), .d (.raw (.int .u32 ((↑(BitVec.toNat m6) : Int)))), .d (.raw (.int .u32 ((↑(BitVec.toNat m7) : Int)))), .d (.raw (.int .u32 ((↑(BitVec.toNat m8) : Int)))), .d (.raw (.int .u32 ((↑(BitVec.toNat m9) : Int)))), .d (.raw (.int .u32 ((↑(BitVec.toNat m10) : Int)))), .d (.raw (.int .u32 ((↑(BitVec.toNat m11) : Int)))), .d (.raw (.int .u32 ((↑(BitVec.toNat m12) : Int)))), .d (.raw (.int .u32 ((↑(BitVec.toNat m13) : Int)))), .d (.raw (.int .u32 ((↑(BitVec.toNat m14) : Int)))), .d (.raw (.int .u32 ((↑(BitVec.toNat m15) : Int))))])]⟩) (cs := [((0 : Int) ≤ j ∧ j < (↑row.size : Int)), _, ((0 : Int) ≤ IntKind.u8.wrap (byteAt row j.toNat - 48) ∧ IntKind.u8.wrap (byteAt row j.toNat - 48) < (16 : Int)), ((IntKind.u8.wrap (byteAt row j.toNat - 48)).toNat < 16)]) [false, false] true ⟨(by first | omega | exact hr | (have := hn.1 ‹_›; omega) | (have := hn.2 ‹_›; omega)), hb1, (by first | omega | exact hr | (have := hn.1 ‹_›; omega) | (have := hn.2 ‹_›; omega)), (by first | omega | exact hr | (have := hn.1 ‹_›; omega) | (have := hn.2 ‹_›; omega)), trivial⟩ (by first | (rw [(hn.1 hb1).1, hg]; rfl) | (rw [(hn.2 hb1).1, hg]; rfl)) hsim
theorem O3_ok : OrcOK Tryd.prog O3 := O2_ok.add _ false mDig fun args H r H' cs h hc => by
  unfold mDig at h
  split at h
  · rename_i row j T cs
    split at h
    · rename_i ns hns
      cases h
      obtain ⟨h1, h2, h3, h4, _⟩ := hc
      rw [words_of hns h1]
      generalize hm : ns.map unw = m at *
      have hl : m.length = 16 := by rw [← hm]; simpa using h2
      match m, hl with
      | [m0, m1, m2, m3, m4, m5, m6, m7, m8, m9, m10, m11, m12, m13, m14, m15], _ => exact dig_ok m0 m1 m2 m3 m4 m5 m6 m7 m8 m9 m10 m11 m12 m13 m14 m15 T row j h3 h4
    · cases h
  · cases h
end Go.Bla
