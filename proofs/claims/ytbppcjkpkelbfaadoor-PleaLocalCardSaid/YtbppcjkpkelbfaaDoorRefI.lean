/-
  Contracts of given functions, plain laws. No condition.
-/
import Derived.Test.YtbppcjkpkelbfaaDoorRefG
import Derived.Test.YtbppcjkpkelbfaaDoorPrfG
import Derived.Test.YtbppcjkpkelbfaaDoorRef2
import Derived.Test.YtbppcjkpkelbfaaDoorProg
namespace Go.Bla
open Go Go.Eng
def OkBL (el : Nat → D) : Prop := ∃ f : Nat → Int, (∀ i, 0 ≤ f i ∧ f i < 256) ∧ ∀ i, i < 64 → el i = .raw (.int .u8 (f i))
def fnL (el : Nat → D) (i : Nat) : Int := unI (el i)
def mRBlock : List AV → List (Nat × Th) → Option (AV × List (Nat × Th) × List Prop)
 | [.d (.list 1 8 el), .d (.list 1 n el2), .d (.raw (.int .i64 t)), .d (.raw (.bool last))], [] =>
  some (hD (blockM (wl 8 el) (mW (fnL el2)) (BitVec.ofNat 32 t.toNat) (BitVec.ofNat 32 (t.toNat / 4294967296)) last), [], [n = 64, OkR 8 el, OkBL el2, 0 ≤ t ∧ t < 4611686018427387904])
 | _, _ => none
def Q6 : Orc := Q5.add 61 true mRBlock
def u8 (f : Nat → Int) (i : Nat) : D := .raw (.int .u8 (f i))
def msgF (key text : ByteArray) (j : Nat) : Int := if key.size = 0 then byteAt text j else if j < 64 then byteAt key j else byteAt text (j - 64)
def ss0 (key text : ByteArray) (i : Int) (f : Nat → Int) : St := mk 0 108 [(0, .d (.raw (.string key))), (1, .d (.raw (.string text))), (6, .own 0), (7, .d (I i))] [(0, .row 5 1 64 (u8 f))]
def ss1 (key : ByteArray) (n : Nat) (c : Int) (f : Nat → Int) : St := mk 0 108 [(0, .d (.raw (.string key))), (6, .own 0), (8, .d (I c))] [(0, .row 5 1 n (u8 f))]
def ss2 (n : Nat) (c i : Int) (f : Nat → Int) (h : List W) : St := mk 0 108 [(6, .d (.list 1 n (u8 f))), (8, .d (I c)), (9, hD h), (10, .d (I i))] []
end Go.Bla

namespace Go.Bla
open Go Go.Eng Go.Proofs
set_option maxRecDepth 100000
set_option maxHeartbeats 4000000
theorem Q6_ok : OrcOK Tryd.prog Q6 := Q5_ok.add _ true mRBlock fun args H r H' cs h hc => by
 unfold mRBlock at h
 split at h
 ·
  rename_i el n el2 t last
  cases h
  obtain ⟨h1, h2, ⟨f, h3, h4⟩, h5, _⟩ := hc
  subst h1
  have hf : mW (fnL el2) = mW f := mW_congr fun i hi => by unfold fnL; rw [h4 i hi]; rfl
  have := rblock_ok (wl 8 el) (len_wl _ _) f h3 t.toNat (by omega) last
  rw [Int.toNat_of_nonneg h5.1] at this
  rw [hf]
  refine this.args fun hv => ?_
  refine VAs_imp_cons (fun v hx => ?_) (fun _ h => VAs_imp_cons (fun v hx => ?_) (fun _ h => h) h) hv
  · unfold VA at hx ⊢; exact (SaysD.list fun i hi => (h2 i hi).symm).out _ _ _ hx
  · unfold VA at hx ⊢; exact (SaysD.list fun i hi => (h4 i hi).symm).out _ _ _ hx
 · cases h
theorem msgF_lt (key text : ByteArray) (j : Nat) : 0 ≤ msgF key text j ∧ msgF key text j < 256 := by
 unfold msgF
 split
 · exact byteAt_lt _ _
 · split <;> exact byteAt_lt _ _
def rgoM (f : Nat → Int) (n count : Nat) : Nat → Nat → List W → List W
 | 0, _, h => h
 | d + 1, i, h => rgoM f n count d (i + 64) (blockM h (mW fun j => f (i + j)) (BitVec.ofNat 32 (if i + 64 = n then count else i + 64)) (BitVec.ofNat 32 ((if i + 64 = n then count else i + 64) / 4294967296)) (decide (i + 64 = n)))
def cntM (key text : ByteArray) : Nat := (if key.size = 0 then 0 else 64) + text.size
def blksM (c : Nat) : Nat := if c = 0 then 1 else (c + 63) / 64
def rsumM (key text : ByteArray) : ByteArray := outM (rgoM (msgF key text) (64 * blksM (cntM key text)) (cntM key text) (blksM (cntM key text)) 0 (h0M key.size))
theorem end_bytes (h : List W) (el : Nat → D) (hel : ∀ i, i < 32 → el i = .raw (.int .u8 (IntKind.u8.wrap (((h.getD (i / 4) 0).toNat : Int).fdiv ((2 : Int) ^ (8 * (i % 4))))))) : bytesOf 32 el = outM h := by
 unfold bytesOf outM
 congr 2
 apply List.map_congr_left
 intro i hi
 have hi := List.mem_range.1 hi
 rw [hel i hi]
 show UInt8.ofNat (IntKind.u8.wrap _).toNat = _
 rw [wrap_u8, int_pow2, Int.fdiv_eq_ediv_of_nonneg _ (Int.natCast_nonneg _), ← Int.natCast_ediv]
 congr 1
theorem wl8 {l : List W} (h : l.length = 8) : wl 8 (wel l) = l := by
 unfold wl wel
 apply List.ext_getElem
 · simp [h]
 ·
  intro i h1 h2
  simp only [List.getElem_map, List.getElem_range]
  show unw ((l.getD i 0).toNat : Int) = _
  rw [unw_w, List.getD_eq_getElem?_getD, List.getElem?_eq_getElem h2]; rfl
theorem rs_loop2 {w0 : World} {N : Nat → Prop} {E0 : Env} (f : Nat → Int) (hf : ∀ i, 0 ≤ f i ∧ f i < 256) (n cn : Nat) (hcn : cn < 4611686018427387904) (hn : n < 4611686018427387000) : ∀ (d k : Nat) (h : List W), h.length = 8 → n = k + 64 * d → ∀ (E : Env) (a : Act) (w : World), Sim (cx Tryd.prog gl w0 N E0 []) E (ss2 n cn k f h) a w →
  Goes Tryd.prog 53 (loopAt Tryd.f53 2) (RSpec (cx Tryd.prog gl w0 N E0 []) ⟨0, [.tup [.d (.raw (.string (outM (rgoM f n cn d k h)))), .d (I 0)]], []⟩) a w := by
 intro d
 induction d with
 | zero =>
  intro k h hh hk E a w hsim
  have hd : ∀ i : Int, i = k → decide (i < (n : Int)) = false := fun i hi => decide_eq_false (by omega)
  generalize hi : (k : Int) = i at hsim
  generalize hc : (cn : Int) = c at hsim
  have hd := hd i hi.symm
  rcases bd (decide (i < (↑n : Int))) with hb1 | hb1
  ·
   rcases bd (IntKind.i64.wrap (i + (64 : Int)) == (↑n : Int)) with hb2 | hb2
   ·
    exact absurd hb1 (by rw [hd]; decide)
   ·
    exact absurd hb1 (by rw [hd]; decide)
  ·
   exact gr Q6_ok Tryd.func53 (sr' := ⟨0, [.tup [vS (bytesOf 32 fun j => mrg (j.beq 31) (D.raw (Value.int IntKind.u8 (IntKind.u8.wrap ((tN (h.getD 7 (0 : W))).fdiv ((2 : Int) ^ 24))))) (mrg (j.beq 30) (D.raw (Value.int IntKind.u8 (IntKind.u8.wrap ((tN (h.getD 7 (0 : W))).fdiv ((2 : Int) ^ 16))))) (mrg (j.beq 29) (D.raw (Value.int IntKind.u8 (IntKind.u8.wrap ((tN (h.getD 7 (0 : W))).fdiv ((2 : Int) ^ 8))))) (mrg (j.beq 28) (D.raw (Value.int IntKind.u8 (IntKind.u8.wrap ((tN (h.getD 7 (0 : W))).fdiv ((2 : Int) ^ 0))))) (mrg (j.beq 27) (D.raw (Value.int IntKind.u8 (IntKind.u8.wrap ((tN (h.getD 6 (0 : W))).fdiv ((2 : Int) ^ 24))))) (mrg (j.beq 26) (D.raw (Value.int IntKind.u8 (IntKind.u8.wrap ((tN (h.getD 6 (0 : W))).fdiv ((2 : Int) ^ 16))))) (mrg (j.beq 25) (D.raw (Value.int IntKind.u8 (IntKind.u8.wrap ((tN (h.getD 6 (0 : W))).fdiv ((2 : Int) ^ 8))))) (mrg (j.beq 24) (D.raw (Value.int IntKind.u8 (IntKind.u8.wrap ((tN (h.getD 6 (0 : W))).fdiv ((2 : Int) ^ 0))))) (mrg (j.beq 23) (D.raw (Value.int IntKind.u8 (IntKind.u8.wrap ((tN (h.getD 5 (0 : W))).fdiv ((2 : Int) ^ 24))))) (mrg (j.beq 22) (D.raw (Value.int IntKind.u8 (IntKind.u8.wrap ((tN (h.getD 5 (0 : W))).fdiv ((2 : Int) ^ 16))))) (mrg (j.beq 21) (D.raw (Value.int IntKind.u8 (IntKind.u8.wrap ((tN (h.getD 5 (0 : W))).fdiv ((2 : Int) ^ 8))))) (mrg (j.beq 20) (D.raw (Value.int IntKind.u8 (IntKind.u8.wrap ((tN (h.getD 5 (0 : W))).fdiv ((2 : Int) ^ 0))))) (mrg (j.beq 19) (D.raw (Value.int IntKind.u8 (IntKind.u8.wrap ((tN (h.getD 4 (0 : W))).fdiv ((2 : Int) ^ 24))))) (mrg (j.beq 18) (D.raw (Value.int IntKind.u8 (IntKind.u8.wrap ((tN (h.getD 4 (0 : W))).fdiv ((2 : Int) ^ 16))))) (mrg (j.beq 17) (D.raw (Value.int IntKind.u8 (IntKind.u8.wrap ((tN (h.getD 4 (0 : W))).fdiv ((2 : Int) ^ 8))))) (mrg (j.beq 16) (D.raw (Value.int IntKind.u8 (IntKind.u8.wrap ((tN (h.getD 4 (0 : W))).fdiv ((2 : Int) ^ 0))))) (mrg (j.beq 15) (D.raw (Value.int IntKind.u8 (IntKind.u8.wrap ((tN (h.getD 3 (0 : W))).fdiv ((2 : Int) ^ 24))))) (mrg (j.beq 14) (D.raw (Value.int IntKind.u8 (IntKind.u8.wrap ((tN (h.getD 3 (0 : W))).fdiv ((2 : Int) ^ 16))))) (mrg (j.beq 13) (D.raw (Value.int IntKind.u8 (IntKind.u8.wrap ((tN (h.getD 3 (0 : W))).fdiv ((2 : Int) ^ 8))))) (mrg (j.beq 12) (D.raw (Value.int IntKind.u8 (IntKind.u8.wrap ((tN (h.getD 3 (0 : W))).fdiv ((2 : Int) ^ 0))))) (mrg (j.beq 11) (D.raw (Value.int IntKind.u8 (IntKind.u8.wrap ((tN (h.getD 2 (0 : W))).fdiv ((2 : Int) ^ 24))))) (mrg (j.beq 10) (D.raw (Value.int IntKind.u8 (IntKind.u8.wrap ((tN (h.getD 2 (0 : W))).fdiv ((2 : Int) ^ 16))))) (mrg (j.beq 9) (D.raw (Value.int IntKind.u8 (IntKind.u8.wrap ((tN (h.getD 2 (0 : W))).fdiv ((2 : Int) ^ 8))))) (mrg (j.beq 8) (D.raw (Value.int IntKind.u8 (IntKind.u8.wrap ((tN (h.getD 2 (0 : W))).fdiv ((2 : Int) ^ 0))))) (mrg (j.beq 7) (D.raw (Value.int IntKind.u8 (IntKind.u8.wrap ((tN (h.getD 1 (0 : W))).fdiv ((2 : Int) ^ 24))))) (mrg (j.beq 6) (D.raw (Value.int IntKind.u8 (IntKind.u8.wrap ((tN (h.getD 1 (0 : W))).fdiv ((2 : Int) ^ 16))))) (mrg (j.beq 5) (D.raw (Value.int IntKind.u8 (IntKind.u8.wrap ((tN (h.getD 1 (0 : W))).fdiv ((2 : Int) ^ 8))))) (mrg (j.beq 4) (D.raw (Value.int IntKind.u8 (IntKind.u8.wrap ((tN (h.getD 1 (0 : W))).fdiv ((2 : Int) ^ 0))))) (mrg (j.beq 3) (D.raw (Value.int IntKind.u8 (IntKind.u8.wrap ((tN (h.getD 0 (0 : W))).fdiv ((2 : Int) ^ 24))))) (mrg (j.beq 2) (D.raw (Value.int IntKind.u8 (IntKind.u8.wrap ((tN (h.getD 0 (0 : W))).fdiv ((2 : Int) ^ 16))))) (mrg (j.beq 1) (D.raw (Value.int IntKind.u8 (IntKind.u8.wrap ((tN (h.getD 0 (0 : W))).fdiv ((2 : Int) ^ 8))))) (mrg (j.beq 0) (D.raw (Value.int IntKind.u8 (IntKind.u8.wrap ((tN (h.getD 0 (0 : W))).fdiv ((2 : Int) ^ 0))))) (D.raw (Value.int IntKind.u8 (0 : Int))))))))))))))))))))))))))))))))))), vI 0]], []⟩) (cs := [_, ((0 : Int) ≤ (32 : Int) ∧ (32 : Int) ≤ (32 : Int) ∧ (32 : Int) ≤ (281474976710656 : Int) ∧ (32 : Int) ≤ (9223372036854775807 : Int)), ((true) = true), (Nz 4), (Ix 0 8), (Nz 4), (Nn 0), (Ix 0 32), (0 < 32), ((true) = true), (Nz 4), (Ix 0 8), (Nz 4), (Nn 8), (Ix 1 32), (1 < 32), ((true) = true), (Nz 4), (Ix 0 8), (Nz 4), (Nn 16), (Ix 2 32), (2 < 32), ((true) = true), (Nz 4), (Ix 0 8), (Nz 4), (Nn 24), (Ix 3 32), (3 < 32), ((true) = true), (Nz 4), (Ix 1 8), (Nz 4), (Nn 0), (Ix 4 32), (4 < 32), ((true) = true), (Nz 4), (Ix 1 8), (Nz 4), (Nn 8), (Ix 5 32), (5 < 32), ((true) = true), (Nz 4), (Ix 1 8), (Nz 4), (Nn 16), (Ix 6 32), (6 < 32), ((true) = true), (Nz 4), (Ix 1 8), (Nz 4), (Nn 24), (Ix 7 32), (7 < 32), ((true) = true), (Nz 4), (Ix 2 8), (Nz 4), (Nn 0), (Ix 8 32), (8 < 32), ((true) = true), (Nz 4), (Ix 2 8), (Nz 4), (Nn 8), (Ix 9 32), (9 < 32), ((true) = true), (Nz 4), (Ix 2 8), (Nz 4), (Nn 16), (Ix 10 32), (10 < 32), ((true) = true), (Nz 4), (Ix 2 8), (Nz 4), (Nn 24), (Ix 11 32), (11 < 32), ((true) = true), (Nz 4), (Ix 3 8), (Nz 4), (Nn 0), (Ix 12 32), (12 < 32), ((true) = true), (Nz 4), (Ix 3 8), (Nz 4), (Nn 8), (Ix 13 32), (13 < 32), ((true) = true), (Nz 4), (Ix 3 8), (Nz 4), (Nn 16), (Ix 14 32), (14 < 32), ((true) = true), (Nz 4), (Ix 3 8), (Nz 4), (Nn 24), (Ix 15 32), (15 < 32), ((true) = true), (Nz 4), (Ix 4 8), (Nz 4), (Nn 0), (Ix 16 32), (16 < 32), ((true) = true), (Nz 4), (Ix 4 8), (Nz 4), (Nn 8), (Ix 17 32), (17 < 32), ((true) = true), (Nz 4), (Ix 4 8), (Nz 4), (Nn 16), (Ix 18 32), (18 < 32), ((true) = true), (Nz 4), (Ix 4 8), (Nz 4), (Nn 24), (Ix 19 32), (19 < 32), ((true) = true), (Nz 4), (Ix 5 8), (Nz 4), (Nn 0), (Ix 20 32), (20 < 32), ((true) = true), (Nz 4), (Ix 5 8), (Nz 4), (Nn 8), (Ix 21 32), (21 < 32), ((true) = true), (Nz 4), (Ix 5 8), (Nz 4), (Nn 16), (Ix 22 32), (22 < 32), ((true) = true), (Nz 4), (Ix 5 8), (Nz 4), (Nn 24), (Ix 23 32), (23 < 32), ((true) = true), (Nz 4), (Ix 6 8), (Nz 4), (Nn 0), (Ix 24 32), (24 < 32), ((true) = true), (Nz 4), (Ix 6 8), (Nz 4), (Nn 8), (Ix 25 32), (25 < 32), ((true) = true), (Nz 4), (Ix 6 8), (Nz 4), (Nn 16), (Ix 26 32), (26 < 32), ((true) = true), (Nz 4), (Ix 6 8), (Nz 4), (Nn 24), (Ix 27 32), (27 < 32), ((true) = true), (Nz 4), (Ix 7 8), (Nz 4), (Nn 0), (Ix 28 32), (28 < 32), ((true) = true), (Nz 4), (Ix 7 8), (Nz 4), (Nn 8), (Ix 29 32), (29 < 32), ((true) = true), (Nz 4), (Ix 7 8), (Nz 4), (Nn 16), (Ix 30 32), (30 < 32), ((true) = true), (Nz 4), (Ix 7 8), (Nz 4), (Nn 24), (Ix 31 32), (31 < 32), ((false) = false), (∀ (i : Nat), i < 32 → isI IntKind.u8 (mrg (i.beq 31) (D.raw (Value.int IntKind.u8 (IntKind.u8.wrap ((tN (h.getD 7 (0 : W))).fdiv ((2 : Int) ^ 24))))) (mrg (i.beq 30) (D.raw (Value.int IntKind.u8 (IntKind.u8.wrap ((tN (h.getD 7 (0 : W))).fdiv ((2 : Int) ^ 16))))) (mrg (i.beq 29) (D.raw (Value.int IntKind.u8 (IntKind.u8.wrap ((tN (h.getD 7 (0 : W))).fdiv ((2 : Int) ^ 8))))) (mrg (i.beq 28) (D.raw (Value.int IntKind.u8 (IntKind.u8.wrap ((tN (h.getD 7 (0 : W))).fdiv ((2 : Int) ^ 0))))) (mrg (i.beq 27) (D.raw (Value.int IntKind.u8 (IntKind.u8.wrap ((tN (h.getD 6 (0 : W))).fdiv ((2 : Int) ^ 24))))) (mrg (i.beq 26) (D.raw (Value.int IntKind.u8 (IntKind.u8.wrap ((tN (h.getD 6 (0 : W))).fdiv ((2 : Int) ^ 16))))) (mrg (i.beq 25) (D.raw (Value.int IntKind.u8 (IntKind.u8.wrap ((tN (h.getD 6 (0 : W))).fdiv ((2 : Int) ^ 8))))) (mrg (i.beq 24) (D.raw (Value.int IntKind.u8 (IntKind.u8.wrap ((tN (h.getD 6 (0 : W))).fdiv ((2 : Int) ^ 0))))) (mrg (i.beq 23) (D.raw (Value.int IntKind.u8 (IntKind.u8.wrap ((tN (h.getD 5 (0 : W))).fdiv ((2 : Int) ^ 24))))) (mrg (i.beq 22) (D.raw (Value.int IntKind.u8 (IntKind.u8.wrap ((tN (h.getD 5 (0 : W))).fdiv ((2 : Int) ^ 16))))) (mrg (i.beq 21) (D.raw (Value.int IntKind.u8 (IntKind.u8.wrap ((tN (h.getD 5 (0 : W))).fdiv ((2 : Int) ^ 8))))) (mrg (i.beq 20) (D.raw (Value.int IntKind.u8 (IntKind.u8.wrap ((tN (h.getD 5 (0 : W))).fdiv ((2 : Int) ^ 0))))) (mrg (i.beq 19) (D.raw (Value.int IntKind.u8 (IntKind.u8.wrap ((tN (h.getD 4 (0 : W))).fdiv ((2 : Int) ^ 24))))) (mrg (i.beq 18) (D.raw (Value.int IntKind.u8 (IntKind.u8.wrap ((tN (h.getD 4 (0 : W))).fdiv ((2 : Int) ^ 16))))) (mrg (i.beq 17) (D.raw (Value.int IntKind.u8 (IntKind.u8.wrap ((tN (h.getD 4 (0 : W))).fdiv ((2 : Int) ^ 8))))) (mrg (i.beq 16) (D.raw (Value.int IntKind.u8 (IntKind.u8.wrap ((tN (h.getD 4 (0 : W))).fdiv ((2 : Int) ^ 0))))) (mrg (i.beq 15) (D.raw (Value.int IntKind.u8 (IntKind.u8.wrap ((tN (h.getD 3 (0 : W))).fdiv ((2 : Int) ^ 24))))) (mrg (i.beq 14) (D.raw (Value.int IntKind.u8 (IntKind.u8.wrap ((tN (h.getD 3 (0 : W))).fdiv ((2 : Int) ^ 16))))) (mrg (i.beq 13) (D.raw (Value.int IntKind.u8 (IntKind.u8.wrap ((tN (h.getD 3 (0 : W))).fdiv ((2 : Int) ^ 8))))) (mrg (i.beq 12) (D.raw (Value.int IntKind.u8 (IntKind.u8.wrap ((tN (h.getD 3 (0 : W))).fdiv ((2 : Int) ^ 0))))) (mrg (i.beq 11) (D.raw (Value.int IntKind.u8 (IntKind.u8.wrap ((tN (h.getD 2 (0 : W))).fdiv ((2 : Int) ^ 24))))) (mrg (i.beq 10) (D.raw (Value.int IntKind.u8 (IntKind.u8.wrap ((tN (h.getD 2 (0 : W))).fdiv ((2 : Int) ^ 16))))) (mrg (i.beq 9) (D.raw (Value.int IntKind.u8 (IntKind.u8.wrap ((tN (h.getD 2 (0 : W))).fdiv ((2 : Int) ^ 8))))) (mrg (i.beq 8) (D.raw (Value.int IntKind.u8 (IntKind.u8.wrap ((tN (h.getD 2 (0 : W))).fdiv ((2 : Int) ^ 0))))) (mrg (i.beq 7) (D.raw (Value.int IntKind.u8 (IntKind.u8.wrap ((tN (h.getD 1 (0 : W))).fdiv ((2 : Int) ^ 24))))) (mrg (i.beq 6) (D.raw (Value.int IntKind.u8 (IntKind.u8.wrap ((tN (h.getD 1 (0 : W))).fdiv ((2 : Int) ^ 16))))) (mrg (i.beq 5) (D.raw (Value.int IntKind.u8 (IntKind.u8.wrap ((tN (h.getD 1 (0 : W))).fdiv ((2 : Int) ^ 8))))) (mrg (i.beq 4) (D.raw (Value.int IntKind.u8 (IntKind.u8.wrap ((tN (h.getD 1 (0 : W))).fdiv ((2 : Int) ^ 0))))) (mrg (i.beq 3) (D.raw (Value.int IntKind.u8 (IntKind.u8.wrap ((tN (h.getD 0 (0 : W))).fdiv ((2 : Int) ^ 24))))) (mrg (i.beq 2) (D.raw (Value.int IntKind.u8 (IntKind.u8.wrap ((tN (h.getD 0 (0 : W))).fdiv ((2 : Int) ^ 16))))) (mrg (i.beq 1) (D.raw (Value.int IntKind.u8 (IntKind.u8.wrap ((tN (h.getD 0 (0 : W))).fdiv ((2 : Int) ^ 8))))) (mrg (i.beq 0) (D.raw (Value.int IntKind.u8 (IntKind.u8.wrap ((tN (h.getD 0 (0 : W))).fdiv ((2 : Int) ^ 0))))) (D.raw (Value.int IntKind.u8 (0 : Int))))))))))))))))))))))))))))))))))) = true)]) ([false] ++ (List.replicate 65 true) ++ [false]) true ⟨hb1, (by decide), rfl, (by decide), (by decide), (by decide), (by decide), (by decide), (by decide), rfl, (by decide), (by decide), (by decide), (by decide), (by decide), (by decide), rfl, (by decide), (by decide), (by decide), (by decide), (by decide), (by decide), rfl, (by decide), (by decide), (by decide), (by decide), (by decide), (by decide), rfl, (by decide), (by decide), (by decide), (by decide), (by decide), (by decide), rfl, (by decide), (by decide), (by decide), (by decide), (by decide), (by decide), rfl, (by decide), (by decide), (by decide), (by decide), (by decide), (by decide), rfl, (by decide), (by decide), (by decide), (by decide), (by decide), (by decide), rfl, (by decide), (by decide), (by decide), (by decide), (by decide), (by decide), rfl, (by decide), (by decide), (by decide), (by decide), (by decide), (by decide), rfl, (by decide), (by decide), (by decide), (by decide), (by decide), (by decide), rfl, (by decide), (by decide), (by decide), (by decide), (by decide), (by decide), rfl, (by decide), (by decide), (by decide), (by decide), (by decide), (by decide), rfl, (by decide), (by decide), (by decide), (by decide), (by decide), (by decide), rfl, (by decide), (by decide), (by decide), (by decide), (by decide), (by decide), rfl, (by decide), (by decide), (by decide), (by decide), (by decide), (by decide), rfl, (by decide), (by decide), (by decide), (by decide), (by decide), (by decide), rfl, (by decide), (by decide), (by decide), (by decide), (by decide), (by decide), rfl, (by decide), (by decide), (by decide), (by decide), (by decide), (by decide), rfl, (by decide), (by decide), (by decide), (by decide), (by decide), (by decide), rfl, (by decide), (by decide), (by decide), (by decide), (by decide), (by decide), rfl, (by decide), (by decide), (by decide), (by decide), (by decide), (by decide), rfl, (by decide), (by decide), (by decide), (by decide), (by decide), (by decide), rfl, (by decide), (by decide), (by decide), (by decide), (by decide), (by decide), rfl, (by decide), (by decide), (by decide), (by decide), (by decide), (by decide), rfl, (by decide), (by decide), (by decide), (by decide), (by decide), (by decide), rfl, (by decide), (by decide), (by decide), (by decide), (by decide), (by decide), rfl, (by decide), (by decide), (by decide), (by decide), (by decide), (by decide), rfl, (by decide), (by decide), (by decide), (by decide), (by decide), (by decide), rfl, (by decide), (by decide), (by decide), (by decide), (by decide), (by decide), rfl, (by decide), (by decide), (by decide), (by decide), (by decide), (by decide), rfl, (by decide), (by decide), (by decide), (by decide), (by decide), (by decide), rfl, (by (intro i hi; match i, hi with | 0, _ | 1, _ | 2, _ | 3, _ | 4, _ | 5, _ | 6, _ | 7, _ | 8, _ | 9, _ | 10, _ | 11, _ | 12, _ | 13, _ | 14, _ | 15, _ | 16, _ | 17, _ | 18, _ | 19, _ | 20, _ | 21, _ | 22, _ | 23, _ | 24, _ | 25, _ | 26, _ | 27, _ | 28, _ | 29, _ | 30, _ | 31, _ => rfl | i + 32, h => exact absurd h (by omega))), trivial⟩ (by rw [rgoM, end_bytes h _ (fun i hi => by match i, hi with | 0, _ | 1, _ | 2, _ | 3, _ | 4, _ | 5, _ | 6, _ | 7, _ | 8, _ | 9, _ | 10, _ | 11, _ | 12, _ | 13, _ | 14, _ | 15, _ | 16, _ | 17, _ | 18, _ | 19, _ | 20, _ | 21, _ | 22, _ | 23, _ | 24, _ | 25, _ | 26, _ | 27, _ | 28, _ | 29, _ | 30, _ | 31, _ => rfl | i + 32, h => exact absurd h (by omega))]; rfl) hsim
 | succ d ih =>
  intro k h hh hk E a w hsim
  have hd : ∀ i : Int, i = k → decide (i < (n : Int)) = true := fun i hi => decide_eq_true (by omega)
  have hw : ∀ i : Int, i = k → IntKind.i64.wrap (i + 64) = ((k + 64 : Nat) : Int) := fun i hi => by rw [wrap_i64 _ (by omega)]; omega
  have hl : ∀ (m : List W) x y l, (blockM h m x y l).length = 8 := fun m x y l => len_blockM h m x y l
  have ih := fun h hh E a w hs => ih (k + 64) h hh (by omega) E a w hs
  rw [rgoM]
  generalize hi : (k : Int) = i at hsim
  generalize hc : (cn : Int) = c at hsim
  have hd := hd i hi.symm
  have hw := hw i hi.symm
  have hik : i.toNat = k := by omega
  have hmw : mW (fnL fun j => u8 f (i.toNat + j)) = mW fun j => f (k + j) := by rw [hik]; rfl
  have hbl : OkBL fun j => u8 f (i.toNat + j) := ⟨fun j => f (i.toNat + j), fun j => hf _, fun j _ => rfl⟩
  have hok : OkR 8 (wel h) := fun j _ => by rw [wl8 hh]
  have hct : c.toNat = cn := by omega
  rcases bd (decide (i < (↑n : Int))) with hb1 | hb1
  ·
   rcases bd (IntKind.i64.wrap (i + (64 : Int)) == (↑n : Int)) with hb2 | hb2
   ·
    refine gh Q6_ok (k' := loopAt Tryd.f53 2) (s' := mk 0 108 [(6, .d (.list 1 n (u8 f))), (8, vI c), (9, .d (.list 1 8 (wel (blockM (wl 8 (wel h)) (mW (fnL fun i_1 => u8 f (i.toNat + i_1))) (BitVec.ofNat 32 c.toNat) (BitVec.ofNat 32 (c.toNat / 4294967296)) (IntKind.i64.wrap (i + 64) == (↑n : Int)))))), (10, vI (IntKind.i64.wrap (i + 64)))] []) (cs := [_, _, ((0 : Int) ≤ i ∧ i ≤ IntKind.i64.wrap (i + 64) ∧ IntKind.i64.wrap (i + 64) ≤ (↑n : Int)), ((IntKind.i64.wrap (i + 64) - i).toNat = 64), (OkR 8 (wel h)), (OkBL fun i_1 => u8 f (i.toNat + i_1)), ((0 : Int) ≤ c ∧ c < (4611686018427387904 : Int))]) [true, true] [6,8,9,10] ⟨hb1, hb2, (by (rw [hw]; omega)), (by (rw [hw]; omega)), (by exact hok), (by exact hbl), by omega, trivial⟩ hsim fun E a w hsim => ?_
    refine ih _ (hl _ _ _ _) E a w (hsim.tell ?_)
    have e1 : decide (k + 64 = n) = (((k + 64 : Nat) : Int) == (n : Int)) := by rw [Bool.eq_iff_iff, decide_eq_true_eq, beq_iff_eq]; omega
    have hq := hb2
    rw [hw, ← e1] at hq
    rw [wl8 hh, hmw, hw, ← e1]
    first | rw [if_pos (of_decide_eq_true hq)] | rw [if_neg (of_decide_eq_false hq)]
    try rw [hct]
    try rw [Int.toNat_natCast]
    subst hc; rfl
   ·
    refine gh Q6_ok (k' := loopAt Tryd.f53 2) (s' := mk 0 108 [(6, .d (.list 1 n (u8 f))), (8, vI c), (9, .d (.list 1 8 (wel (blockM (wl 8 (wel h)) (mW (fnL fun i_1 => u8 f (i.toNat + i_1))) (BitVec.ofNat 32 (IntKind.i64.wrap (i + 64)).toNat) (BitVec.ofNat 32 ((IntKind.i64.wrap (i + 64)).toNat / 4294967296)) (IntKind.i64.wrap (i + 64) == (↑n : Int)))))), (10, vI (IntKind.i64.wrap (i + 64)))] []) (cs := [_, _, ((0 : Int) ≤ i ∧ i ≤ IntKind.i64.wrap (i + 64) ∧ IntKind.i64.wrap (i + 64) ≤ (↑n : Int)), ((IntKind.i64.wrap (i + 64) - i).toNat = 64), (OkR 8 (wel h)), (OkBL fun i_1 => u8 f (i.toNat + i_1)), ((0 : Int) ≤ IntKind.i64.wrap (i + 64) ∧ IntKind.i64.wrap (i + 64) < (4611686018427387904 : Int))]) [true, false] [6,8,9,10] ⟨hb1, hb2, (by (rw [hw]; omega)), (by (rw [hw]; omega)), (by exact hok), (by exact hbl), (by (rw [hw]; omega)), trivial⟩ hsim fun E a w hsim => ?_
    refine ih _ (hl _ _ _ _) E a w (hsim.tell ?_)
    have e1 : decide (k + 64 = n) = (((k + 64 : Nat) : Int) == (n : Int)) := by rw [Bool.eq_iff_iff, decide_eq_true_eq, beq_iff_eq]; omega
    have hq := hb2
    rw [hw, ← e1] at hq
    rw [wl8 hh, hmw, hw, ← e1]
    first | rw [if_pos (of_decide_eq_true hq)] | rw [if_neg (of_decide_eq_false hq)]
    try rw [hct]
    try rw [Int.toNat_natCast]
    subst hc; rfl
  ·
   exact absurd hb1 (by rw [hd]; decide)
end Go.Bla
