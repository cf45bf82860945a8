import Derived.Test.YtfjiblbajgmeiaaLg5
namespace Go.Proofs.Ytfjiblbajgmeiaa
open Go Go.Am Go.Proofs
set_option linter.unusedSimpArgs false
set_option linter.unusedVariables false
set_option maxRecDepth 20000
set_option maxHeartbeats 4000000

/-! A disk that holds so many texts, so many of them synced. -/
def Ls (ts : List (List UInt8)) (k : Nat) (o c : Bool) (l : Nat) : Dk := ⟨⟨fcat ts 0, fcat (ts.take k) 0, false⟩, .none, .none, o, c, 0, l⟩
theorem fcat_pre (ts : List (List UInt8)) (k n : Nat) : fcat (ts.take k) n <+: fcat ts n := by
  induction ts generalizing k n with
  | nil => simp [fcat]
  | cons b ts ih =>
    cases k with
    | zero => simp [fcat]
    | succ k => rw [List.take_succ_cons, fcat, fcat]; exact List.prefix_append_right_inj _ |>.2 (ih k (n + 1))
theorem Ls_good {ts : List (List UInt8)} {k l : Nat} {o c : Bool} (h : (fcat ts 0).length ≤ 262144) : (Ls ts k o c l).Good :=
  ⟨⟨h, Nat.le_trans (fcat_pre ts k 0).length_le h, fun _ => fcat_pre ts k 0⟩, new_good.f1, new_good.f2, show 0 < 2 ^ 63 by decide⟩
theorem Ls_new : Dk.new = Ls [] 0 false false 1 := rfl
theorem Ls_add {ts : List (List UInt8)} {k l : Nat} {c : Bool} {b : List UInt8} (hk : k ≤ ts.length) (h : (fcat (ts ++ [b]) 0).length ≤ 262144) : (Ls ts k false c l).append 0 (frame ts.length b) = (0, Ls (ts ++ [b]) k false c l) := by
  have e := fcat_snoc ts 0 b
  rw [Nat.zero_add] at e
  rw [app0 rfl rfl (by show (fcat ts 0).length + _ ≤ _; rw [← List.length_append, ← e]; exact h)]
  unfold Ls
  rw [List.take_append_of_le_length hk, e]
theorem Ls_sync {ts : List (List UInt8)} {k l : Nat} {c : Bool} : (Ls ts k false c l).sync 0 = (0, Ls ts ts.length false c l) := by
  rw [sync0 rfl rfl]; unfold Ls Dk.with0; rw [List.take_length]
theorem Ls_with {ts : List (List UInt8)} {k l : Nat} {o c : Bool} : (Ls ts k o c l).with0 (fcat ts 0) = Ls ts ts.length o c l := by
  unfold Ls Dk.with0; rw [List.take_length]
end Go.Proofs.Ytfjiblbajgmeiaa
