import Derived.Test.YtkhjnopmkihmiaaSm7
namespace Go.Proofs.Ytkhjnopmkihmiaa
open Go Go.Am Go.Proofs

/-! No two of the polynomial's powers, up to a bound, make a third. -/
inductive Tr where
  | e
  | l (w v : Nat)
  | n (a b : Tr)

def Tr.find : Tr → Nat → Nat
  | .e, _ => 0
  | .l _ v, _ => v
  | .n a b, w => match Nat.beq (Nat.mod w 2) 0 with
    | true => a.find (Nat.div w 2)
    | false => b.find (Nat.div w 2)

def Tr.ins : Nat → Nat → Nat → Tr → Tr
  | 0, _, _, t => t
  | _ + 1, w, v, .e => .l w v
  | d + 1, w, v, .l w' v' => match Nat.beq (Nat.mod w 2) 0 with
    | true => match Nat.beq (Nat.mod w' 2) 0 with
      | true => .n (Tr.ins d (Nat.div w 2) v (.l (Nat.div w' 2) v')) .e
      | false => .n (.l (Nat.div w 2) v) (.l (Nat.div w' 2) v')
    | false => match Nat.beq (Nat.mod w' 2) 0 with
      | true => .n (.l (Nat.div w' 2) v') (.l (Nat.div w 2) v)
      | false => .n .e (Tr.ins d (Nat.div w 2) v (.l (Nat.div w' 2) v'))
  | d + 1, w, v, .n a b => match Nat.beq (Nat.mod w 2) 0 with
    | true => .n (Tr.ins d (Nat.div w 2) v a) b
    | false => .n a (Tr.ins d (Nat.div w 2) v b)

def stepK (s : Nat) : Nat := Nat.xor (Nat.div s 2) (Nat.mul 3988292384 (Nat.mod s 2))

def buildT : Nat → Nat → Tr → Tr
  | 0, _, t => t
  | k + 1, v, t => match Nat.beq ((Tr.ins 40 (Nat.mod v 2147483648) v t).find (Nat.mod v 2147483648)) v with
    | true => buildT k (stepK v) (Tr.ins 40 (Nat.mod v 2147483648) v t)
    | false => .e

def chkT : Nat → Nat → Tr → Bool
  | 0, _, _ => true
  | k + 1, v, t => match Nat.beq (t.find (Nat.mod v 2147483648)) v with
    | true => match Nat.beq v 2147483648 with
      | true => false
      | false => chkT k (stepK v) t
    | false => false

set_option maxRecDepth 100000 in
theorem big_chk : chkT 8136 1073741824 (buildT 8136 1073741824 .e) = true := by kernel_rfl
end Go.Proofs.Ytkhjnopmkihmiaa
