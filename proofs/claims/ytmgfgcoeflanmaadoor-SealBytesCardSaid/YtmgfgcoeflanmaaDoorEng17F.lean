/-
  Part of the engine: abstract states of a call (values as trees, things of the call's own), and that each operation of the model does to the world what it does to them. No condition.
-/
import Derived.Test.YtmgfgcoeflanmaaDoorEng16
namespace Go.Eng
open Go Go.RowKit Go.Lib

/-! ### states told anew, part by part: so that computing goes on from constructors -/
def forceV {β : Type} (v : Value) (k : Value → β) : β :=
  match v with
  | .int a b => k (.int a b)
  | .bool b => k (.bool b)
  | .string s => k (.string s)
  | .pointer p => k (.pointer p)
  | v => k v
theorem forceV_eq {β : Type} (v : Value) (k : Value → β) : forceV v k = k v := by cases v <;> rfl
mutual
def forceD {β : Type} : D → (D → β) → β
  | .raw v, k => forceV v fun v => k (.raw v)
  | .list sz n el, k => k (.list sz n el)
  | .agg cs, k => forceDs cs fun cs => k (.agg cs)
def forceDs {β : Type} : List D → (List D → β) → β
  | [], k => k []
  | x :: xs, k => forceD x fun x => forceDs xs fun xs => k (x :: xs)
end
mutual
theorem forceD_eq {β : Type} : ∀ (x : D) (k : D → β), forceD x k = k x
  | .raw v, k => by simp only [forceD, forceV_eq]
  | .list sz n el, k => by simp only [forceD]
  | .agg cs, k => by simp only [forceD, forceDs_eq cs]
theorem forceDs_eq {β : Type} : ∀ (xs : List D) (k : List D → β), forceDs xs k = k xs
  | [], k => by simp only [forceDs]
  | x :: xs, k => by simp only [forceDs, forceD_eq x, forceDs_eq xs]
end
mutual
def forceA {β : Type} : AV → (AV → β) → β
  | .d x, k => forceD x fun x => k (.d x)
  | .ref a b, k => k (.ref a b)
  | .own a, k => k (.own a)
  | .known b, k => k (.known b)
  | .dead, k => k .dead
  | .fn f a b, k => forceAs a fun a => forceAs b fun b => k (.fn f a b)
  | .tup xs, k => forceAs xs fun xs => k (.tup xs)
  | .agg xs, k => forceAs xs fun xs => k (.agg xs)
  | .refI a b c d e f, k => k (.refI a b c d e f)
  | .sub a b c d e, k => k (.sub a b c d e)
  | .osl a b c d e, k => k (.osl a b c d e)
  | .mp a, k => k (.mp a)
  | .cptr cs, k => forceDs cs fun cs => k (.cptr cs)
  | .el a b c d, k => k (.el a b c d)
def forceAs {β : Type} : List AV → (List AV → β) → β
  | [], k => k []
  | x :: xs, k => forceA x fun x => forceAs xs fun xs => k (x :: xs)
end
mutual
theorem forceA_eq {β : Type} : ∀ (x : AV) (k : AV → β), forceA x k = k x
  | .d x, k => by simp only [forceA, forceD_eq]
  | .ref a b, k => by simp only [forceA]
  | .own a, k => by simp only [forceA]
  | .known b, k => by simp only [forceA]
  | .dead, k => by simp only [forceA]
  | .fn f a b, k => by simp only [forceA, forceAs_eq a, forceAs_eq b]
  | .tup xs, k => by simp only [forceA, forceAs_eq xs]
  | .agg xs, k => by simp only [forceA, forceAs_eq xs]
  | .refI a b c d e f, k => by simp only [forceA]
  | .sub a b c d e, k => by simp only [forceA]
  | .osl a b c d e, k => by simp only [forceA]
  | .mp a, k => by simp only [forceA]
  | .cptr cs, k => by simp only [forceA, forceDs_eq]
  | .el a b c d, k => by simp only [forceA]
theorem forceAs_eq {β : Type} : ∀ (xs : List AV) (k : List AV → β), forceAs xs k = k xs
  | [], k => by simp only [forceAs]
  | x :: xs, k => by simp only [forceAs, forceA_eq x, forceAs_eq xs]
end
def forceT {β : Type} (t : Th) (k : Th → β) : β :=
  match t with
  | .obj T cs => forceAs cs fun cs => k (.obj T cs)
  | .row T sz n el => k (.row T sz n el)
  | .mp M => k (.mp M)
theorem forceT_eq {β : Type} (t : Th) (k : Th → β) : forceT t k = k t := by cases t <;> simp [forceT, forceAs_eq]
def forceH {β : Type} : List (Nat × Th) → (List (Nat × Th) → β) → β
  | [], k => k []
  | (j, t) :: r, k => forceT t fun t => forceH r fun r => k ((j, t) :: r)
theorem forceH_eq {β : Type} : ∀ (H : List (Nat × Th)) (k : List (Nat × Th) → β), forceH H k = k H
  | [], k => rfl
  | (j, t) :: r, k => by simp only [forceH, forceT_eq, forceH_eq r]
def forceS {β : Type} (s : St) (k : St → β) : β :=
  match s with
  | ⟨b, ts, H⟩ => forceAs ts fun ts => forceH H fun H => k ⟨b, ts, H⟩
theorem forceS_eq {β : Type} (s : St) (k : St → β) : forceS s k = k s := by cases s; simp [forceS, forceAs_eq, forceH_eq]

/-! ### the same once more, by other names: so that two sides are told anew apart from each other -/
def frcV {β : Type} (v : Value) (k : Value → β) : β :=
  match v with
  | .int a b => k (.int a b)
  | .bool b => k (.bool b)
  | .string s => k (.string s)
  | .pointer p => k (.pointer p)
  | v => k v
theorem frcV_eq {β : Type} (v : Value) (k : Value → β) : frcV v k = k v := by cases v <;> rfl
mutual
def frcD {β : Type} : D → (D → β) → β
  | .raw v, k => frcV v fun v => k (.raw v)
  | .list sz n el, k => k (.list sz n el)
  | .agg cs, k => frcDs cs fun cs => k (.agg cs)
def frcDs {β : Type} : List D → (List D → β) → β
  | [], k => k []
  | x :: xs, k => frcD x fun x => frcDs xs fun xs => k (x :: xs)
end
mutual
theorem frcD_eq {β : Type} : ∀ (x : D) (k : D → β), frcD x k = k x
  | .raw v, k => by simp only [frcD, frcV_eq]
  | .list sz n el, k => by simp only [frcD]
  | .agg cs, k => by simp only [frcD, frcDs_eq cs]
theorem frcDs_eq {β : Type} : ∀ (xs : List D) (k : List D → β), frcDs xs k = k xs
  | [], k => by simp only [frcDs]
  | x :: xs, k => by simp only [frcDs, frcD_eq x, frcDs_eq xs]
end
mutual
def frcA {β : Type} : AV → (AV → β) → β
  | .d x, k => frcD x fun x => k (.d x)
  | .ref a b, k => k (.ref a b)
  | .own a, k => k (.own a)
  | .known b, k => k (.known b)
  | .dead, k => k .dead
  | .fn f a b, k => frcAs a fun a => frcAs b fun b => k (.fn f a b)
  | .tup xs, k => frcAs xs fun xs => k (.tup xs)
  | .agg xs, k => frcAs xs fun xs => k (.agg xs)
  | .refI a b c d e f, k => k (.refI a b c d e f)
  | .sub a b c d e, k => k (.sub a b c d e)
  | .osl a b c d e, k => k (.osl a b c d e)
  | .mp a, k => k (.mp a)
  | .cptr cs, k => frcDs cs fun cs => k (.cptr cs)
  | .el a b c d, k => k (.el a b c d)
def frcAs {β : Type} : List AV → (List AV → β) → β
  | [], k => k []
  | x :: xs, k => frcA x fun x => frcAs xs fun xs => k (x :: xs)
end
mutual
theorem frcA_eq {β : Type} : ∀ (x : AV) (k : AV → β), frcA x k = k x
  | .d x, k => by simp only [frcA, frcD_eq]
  | .ref a b, k => by simp only [frcA]
  | .own a, k => by simp only [frcA]
  | .known b, k => by simp only [frcA]
  | .dead, k => by simp only [frcA]
  | .fn f a b, k => by simp only [frcA, frcAs_eq a, frcAs_eq b]
  | .tup xs, k => by simp only [frcA, frcAs_eq xs]
  | .agg xs, k => by simp only [frcA, frcAs_eq xs]
  | .refI a b c d e f, k => by simp only [frcA]
  | .sub a b c d e, k => by simp only [frcA]
  | .osl a b c d e, k => by simp only [frcA]
  | .mp a, k => by simp only [frcA]
  | .cptr cs, k => by simp only [frcA, frcDs_eq]
  | .el a b c d, k => by simp only [frcA]
theorem frcAs_eq {β : Type} : ∀ (xs : List AV) (k : List AV → β), frcAs xs k = k xs
  | [], k => by simp only [frcAs]
  | x :: xs, k => by simp only [frcAs, frcA_eq x, frcAs_eq xs]
end
def frcT {β : Type} (t : Th) (k : Th → β) : β :=
  match t with
  | .obj T cs => frcAs cs fun cs => k (.obj T cs)
  | .row T sz n el => k (.row T sz n el)
  | .mp M => k (.mp M)
theorem frcT_eq {β : Type} (t : Th) (k : Th → β) : frcT t k = k t := by cases t <;> simp [frcT, frcAs_eq]
def frcH {β : Type} : List (Nat × Th) → (List (Nat × Th) → β) → β
  | [], k => k []
  | (j, t) :: r, k => frcT t fun t => frcH r fun r => k ((j, t) :: r)
theorem frcH_eq {β : Type} : ∀ (H : List (Nat × Th)) (k : List (Nat × Th) → β), frcH H k = k H
  | [], k => rfl
  | (j, t) :: r, k => by simp only [frcH, frcT_eq, frcH_eq r]
def frcS {β : Type} (s : St) (k : St → β) : β :=
  match s with
  | ⟨b, ts, H⟩ => frcAs ts fun ts => frcH H fun H => k ⟨b, ts, H⟩
theorem frcS_eq {β : Type} (s : St) (k : St → β) : frcS s k = k s := by cases s; simp [frcS, frcAs_eq, frcH_eq]
end Go.Eng
