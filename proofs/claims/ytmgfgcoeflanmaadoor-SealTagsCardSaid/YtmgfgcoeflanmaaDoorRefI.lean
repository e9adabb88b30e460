/-
  Contracts of given functions, or plain laws that they need. No condition.
-/
import Derived.Test.YtmgfgcoeflanmaaDoorNamR1
namespace Go.Bla
open Go Go.Eng
set_option linter.unusedVariables false
def OkBL (el : Nat → D) : Prop := ∃ f : Nat → Int, (∀ i, 0 ≤ f i ∧ f i < 256) ∧ ∀ i, i < 64 → el i = .raw (.int .u8 (f i))
def fnL (el : Nat → D) (i : Nat) : Int := unI (el i)
/-- (the reference's block) -/
def mRBlock : List AV → List (Nat × Th) → Option (AV × List (Nat × Th) × List Prop)
  | [.d (.list 1 8 el), .d (.list 1 n el2), .d (.raw (.int .i64 t)), .d (.raw (.bool last))], [] =>
    some (hD (blockM (wl 8 el) (mW (fnL el2)) (BitVec.ofNat 32 t.toNat) (BitVec.ofNat 32 (t.toNat / 4294967296)) last), [], [n = 64, OkR 8 el, OkBL el2, 0 ≤ t ∧ t < 4611686018427387904])
  | _, _ => none
def Q6 : Orc := Q5.add 36 true mRBlock
def u8 (f : Nat → Int) (i : Nat) : D := .raw (.int .u8 (f i))
/-- The message's bytes: the key, if there is one, in 64 bytes; the text. -/
def msgF (key text : ByteArray) (j : Nat) : Int := if key.size = 0 then byteAt text j else if j < 64 then byteAt key j else byteAt text (j - 64)
/-- The states at the loops of the reference's Sum. -/
def ss0 (key text : ByteArray) (i : Int) (f : Nat → Int) : St := mk 0 108 [(0, .d (.raw (.string key))), (1, .d (.raw (.string text))), (6, .own 0), (7, .d (I i))] [(0, .row 5 1 64 (u8 f))]
def ss1 (key : ByteArray) (n : Nat) (c : Int) (f : Nat → Int) : St := mk 0 108 [(0, .d (.raw (.string key))), (6, .own 0), (8, .d (I c))] [(0, .row 5 1 n (u8 f))]
def ss2 (n : Nat) (c i : Int) (f : Nat → Int) (h : List W) : St := mk 0 108 [(6, .d (.list 1 n (u8 f))), (8, .d (I c)), (9, hD h), (10, .d (I i))] []
end Go.Bla
