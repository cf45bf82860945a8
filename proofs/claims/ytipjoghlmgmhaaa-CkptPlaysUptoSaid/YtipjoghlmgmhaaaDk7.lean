import Derived.Test.YtipjoghlmgmhaaaDk6
namespace Go.Proofs.Ytipjoghlmgmhaaa
open Go Go.Am Go.Proofs
set_option linter.unusedSimpArgs false
set_option linter.unusedVariables false
set_option maxRecDepth 20000
set_option maxHeartbeats 4000000

theorem put_at {d d' : Dk} {n : Int} {b : List UInt8} {e : Nat} (he : d.putf n b = (e, d')) (ok : d.Ok) (hn : -9223372036854775808 ≤ n ∧ n ≤ 9223372036854775807) (hb : b.length ≤ 2000000) (H0 : AHeap) (o : Nat) :
    ACalls Try.prog 12 [.ptr o 0, .raw (.int .i64 n), .bys b] (H0.set o (.cel d.cells)) fun r H' => r = eno e ∧ H' = H0.set o (.cel d'.cells) :=
  (Put_calls _ o d n b (AHeap.set_self _ _ _) ok hn hb).mono (by rintro r H' ⟨rfl, rfl⟩; rw [he, AHeap.set_set]; exact ⟨rfl, rfl⟩)
theorem sync_at {d d' : Dk} {n : Int} {e : Nat} (he : d.sync n = (e, d')) (ok : d.Ok) (hn : -9223372036854775808 ≤ n ∧ n ≤ 9223372036854775807) (H0 : AHeap) (o : Nat) :
    ACalls Try.prog 26 [.ptr o 0, .raw (.int .i64 n)] (H0.set o (.cel d.cells)) fun r H' => r = eno e ∧ H' = H0.set o (.cel d'.cells) :=
  (Sync_calls _ o d n (AHeap.set_self _ _ _) ok hn).mono (by rintro r H' ⟨rfl, rfl⟩; rw [he, AHeap.set_set]; exact ⟨rfl, rfl⟩)
theorem read_at {d : Dk} {n : Int} {b : List UInt8} {e : Nat} (he : d.read n = (b, e)) (ok : d.Ok) (hn : -9223372036854775808 ≤ n ∧ n ≤ 9223372036854775807) (H : AHeap) (o : Nat) (h : H o = some (.cel d.cells)) :
    ACalls Try.prog 43 [.ptr o 0, .raw (.int .i64 n)] H fun r H' => r = .tup [.bys b, eno e] ∧ H' = H :=
  (Read_calls _ o d n h ok hn).mono (by rintro r H' ⟨rfl, rfl⟩; rw [he]; exact ⟨rfl, rfl⟩)
theorem crash_at {d d' : Dk} {ks : List Int} (he : d.crashAll ks = d') (ok : d.Ok) (hks : ks.length ≤ 2000000) (hk : ∀ k ∈ ks, -9223372036854775808 ≤ k ∧ k ≤ 9223372036854775807) (H0 : AHeap) (o : Nat) :
    ACalls Try.prog 14 [.ptr o 0, .sls ks.length (ks.map avI)] (H0.set o (.cel d.cells)) fun r H' => r = .tup [] ∧ H' = H0.set o (.cel d'.cells) :=
  (Crash_calls _ o d ks (AHeap.set_self _ _ _) ok hks hk).mono (by rintro r H' ⟨rfl, rfl⟩; rw [he, AHeap.set_set]; exact ⟨rfl, rfl⟩)
theorem on_at {d d' : Dk} (he : d.on = d') (ok : d.Ok) (hl : d.lives < 2 ^ 62) (H0 : AHeap) (o : Nat) :
    ACalls Try.prog 20 [.ptr o 0] (H0.set o (.cel d.cells)) fun r H' => r = .tup [] ∧ H' = H0.set o (.cel d'.cells) :=
  (On_calls _ o d (AHeap.set_self _ _ _) ok hl).mono (by rintro r H' ⟨rfl, rfl⟩; rw [he, AHeap.set_set]; exact ⟨rfl, rfl⟩)
theorem okOf {a b c : Fl} {x y : Bool} {f l : Nat} (h0 : a.Ok) (h1 : b.Ok) (h2 : c.Ok) (hf : f < 2 ^ 63) : Dk.Ok ⟨a, b, c, x, y, f, l⟩ := ⟨h0, h1, h2, hf⟩
theorem none_ok : Fl.none.Ok := ⟨by decide, by decide, by decide⟩
theorem new_ok : Dk.new.Ok := okOf none_ok none_ok none_ok (by decide)

def w1 : Dk := ⟨⟨[97, 98], [], false⟩, .none, .none, false, false, 0, 1⟩
def w2 : Dk := ⟨⟨[97, 98], [97, 98], false⟩, .none, .none, false, false, 0, 1⟩
def w3 : Dk := ⟨⟨[97, 98, 99, 100], [97, 98], false⟩, .none, .none, false, false, 0, 1⟩
def w4 : Dk := ⟨⟨[97, 98, 99], [97, 98, 99], false⟩, .none, .none, true, true, 0, 1⟩
def w5 : Dk := ⟨⟨[97, 98, 99], [97, 98, 99], false⟩, .none, .none, false, true, 0, 2⟩
theorem we1 : Dk.new.append 0 [97, 98] = (0, w1) := by rfl
theorem we2 : w1.sync 0 = (0, w2) := by rfl
theorem we3 : w2.append 0 [99, 100] = (0, w3) := by rfl
theorem we4 : w3.crashAll [1] = w4 := by rfl
theorem we5 : w4.on = w5 := by rfl
theorem we6 : w5.read 0 = ([97, 98, 99], 0) := by rfl
theorem we7 : w3.read 0 = ([97, 98, 99, 100], 0) := by rfl
theorem flok {a b : List UInt8} (h1 : a.length ≤ 2000000) (h2 : b.length ≤ 2000000) (h3 : b.length ≤ a.length) : Fl.Ok ⟨a, b, false⟩ := ⟨h1, h2, fun _ => h3⟩
theorem wo1 : w1.Ok := okOf (flok (by decide) (by decide) (by decide)) none_ok none_ok (by decide)
theorem wo2 : w2.Ok := okOf (flok (by decide) (by decide) (by decide)) none_ok none_ok (by decide)
theorem wo3 : w3.Ok := okOf (flok (by decide) (by decide) (by decide)) none_ok none_ok (by decide)
theorem wo4 : w4.Ok := okOf (flok (by decide) (by decide) (by decide)) none_ok none_ok (by decide)
theorem wo5 : w5.Ok := okOf (flok (by decide) (by decide) (by decide)) none_ok none_ok (by decide)
end Go.Proofs.Ytipjoghlmgmhaaa
