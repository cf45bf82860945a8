import Derived.Test.YtakhmdfabflneaaDk8
namespace Go.Proofs.Ytakhmdfabflneaa
open Go Go.Am Go.Proofs
set_option linter.unusedSimpArgs false
set_option linter.unusedVariables false

/-! The plain law: the calls, told case by case. -/
structure Fl.Good (f : Fl) : Prop where
  now : f.now.length ≤ 262144
  syn : f.syn.length ≤ 262144
  pre : f.oth = false → f.syn <+: f.now
structure Dk.Good (d : Dk) : Prop where
  f0 : d.f0.Good
  f1 : d.f1.Good
  f2 : d.f2.Good
  fuse : d.fuse < 2 ^ 63
theorem Fl.Good.ok {f : Fl} (h : f.Good) : f.Ok := ⟨by have := h.now; omega, by have := h.syn; omega, fun e => (h.pre e).length_le⟩
theorem Dk.Good.ok {d : Dk} (h : d.Good) : d.Ok := ⟨h.f0.ok, h.f1.ok, h.f2.ok, h.fuse⟩

theorem app_big {d : Dk} {n : Int} {b : List UInt8} (hm : d.may n = 0) (h : 262144 < (d.get n.toNat).now.length + b.length) : d.append n b = (6, d) := by
  rw [Dk.append, hm, if_neg (by decide)]
  split
  · rfl
  · rw [Dk.change, if_pos (by rw [List.length_append]; omega)]
theorem app_burn {d : Dk} {n : Int} {b : List UInt8} (hm : d.may n = 0) (h : ¬ 262144 < (d.get n.toNat).now.length + b.length) (hb : d.blow.1 = true) : d.append n b = (4, d.blow.2) := by
  rw [Dk.append, hm, if_neg (by decide), if_neg (by omega), Dk.change, if_neg (by rw [List.length_append]; omega), if_pos hb]
theorem app_done {d : Dk} {n : Int} {b : List UInt8} (hm : d.may n = 0) (h : ¬ 262144 < (d.get n.toNat).now.length + b.length) (hb : d.blow.1 = false) :
    d.append n b = (0, d.blow.2.put n.toNat ⟨(d.get n.toNat).now ++ b, (d.blow.2.get n.toNat).syn, (d.blow.2.get n.toNat).oth⟩) := by
  rw [Dk.append, hm, if_neg (by decide), if_neg (by omega), Dk.change, if_neg (by rw [List.length_append]; omega), if_neg (by rw [hb]; decide), Bool.or_false]
theorem put_big {d : Dk} {n : Int} {b : List UInt8} (hm : d.may n = 0) (h : 262144 < b.length) : d.putf n b = (6, d) := by
  rw [Dk.putf, hm, if_neg (by decide), Dk.change, if_pos h]
theorem put_burn {d : Dk} {n : Int} {b : List UInt8} (hm : d.may n = 0) (h : ¬ 262144 < b.length) (hb : d.blow.1 = true) : d.putf n b = (4, d.blow.2) := by
  rw [Dk.putf, hm, if_neg (by decide), Dk.change, if_neg h, if_pos hb]
theorem put_done {d : Dk} {n : Int} {b : List UInt8} (hm : d.may n = 0) (h : ¬ 262144 < b.length) (hb : d.blow.1 = false) :
    d.putf n b = (0, d.blow.2.put n.toNat ⟨b, (d.blow.2.get n.toNat).syn, true⟩) := by
  rw [Dk.putf, hm, if_neg (by decide), Dk.change, if_neg h, if_neg (by rw [hb]; decide), Bool.or_true]
theorem cut_bad {d : Dk} {n k : Int} (hm : d.may n = 0) (h : k < 0 ∨ (d.get n.toNat).now.length < k) : d.cutf n k = (1, d) := by
  rw [Dk.cutf, hm, if_neg (by decide), if_pos h]
theorem cut_burn {d : Dk} {n k : Int} (hm : d.may n = 0) (h : ¬ (k < 0 ∨ (d.get n.toNat).now.length < k)) (hl : (d.get n.toNat).now.length ≤ 262144) (hb : d.blow.1 = true) : d.cutf n k = (4, d.blow.2) := by
  rw [Dk.cutf, hm, if_neg (by decide), if_neg h, Dk.change, if_neg (by simp; omega), if_pos hb]
theorem cut_done {d : Dk} {n k : Int} (hm : d.may n = 0) (h : ¬ (k < 0 ∨ (d.get n.toNat).now.length < k)) (hl : (d.get n.toNat).now.length ≤ 262144) (hb : d.blow.1 = false) :
    d.cutf n k = (0, d.blow.2.put n.toNat ⟨(d.get n.toNat).now.take k.toNat, (d.blow.2.get n.toNat).syn, true⟩) := by
  rw [Dk.cutf, hm, if_neg (by decide), if_neg h, Dk.change, if_neg (by simp; omega), if_neg (by rw [hb]; decide), Bool.or_true]
theorem sync_burn {d : Dk} {n : Int} (hm : d.may n = 0) (hb : d.blow.1 = true) : d.sync n = (4, d.blow.2) := by
  rw [Dk.sync, hm, if_neg (by decide), if_pos hb]
theorem sync_done {d : Dk} {n : Int} (hm : d.may n = 0) (hb : d.blow.1 = false) : d.sync n = (0, d.blow.2.put n.toNat (d.blow.2.get n.toNat).settled) := by
  rw [Dk.sync, hm, if_neg (by decide), if_neg (by rw [hb]; decide)]
end Go.Proofs.Ytakhmdfabflneaa
