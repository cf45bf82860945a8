import Derived.Test.YtipjoghlmgmhaaaDk8
namespace Go.Proofs.Ytipjoghlmgmhaaa
open Go Go.Am Go.Proofs
set_option linter.unusedSimpArgs false
set_option linter.unusedVariables false

/-! The plain law: the calls, told case by case. -/
structure Fl.Good (f : Fl) : Prop where
  now : f.now.length ≤ 262144
  syn : f.syn.length ≤ 262144
  pre : f.oth = false → f.syn <+: f.now
structure Dk.Good (d : Dk) : Prop where
  f0 : d.f0.Good
  f1 : d.f1.Good
  f2 : d.f2.Good
  fuse : d.fuse < 2 ^ 63
theorem Fl.Good.ok {f : Fl} (h : f.Good) : f.Ok := ⟨by have := h.now; omega, by have := h.syn; omega, fun e => (h.pre e).length_le⟩
theorem Dk.Good.ok {d : Dk} (h : d.Good) : d.Ok := ⟨h.f0.ok, h.f1.ok, h.f2.ok, h.fuse⟩

theorem app_big {d : Dk} {n : Int} {b : List UInt8} (hm : d.may n = 0) (h : 262144 < (d.get n.toNat).now.length + b.length) : d.append n b = (6, d) := by
  rw [Dk.append, hm, if_neg (by decide)]
  split
  · rfl
  · rw [Dk.change, if_pos (by rw [List.length_append]; omega)]
theorem app_burn {d : Dk} {n : Int} {b : List UInt8} (hm : d.may n = 0) (h : ¬ 262144 < (d.get n.toNat).now.length + b.length) (hb : d.blow.1 = true) : d.append n b = (4, d.blow.2) := by
  rw [Dk.append, hm, if_neg (by decide), if_neg (by omega), Dk.change, if_neg (by rw [List.length_append]; omega), if_pos hb]
theorem app_done {d : Dk} {n : Int} {b : List UInt8} (hm : d.may n = 0) (h : ¬ 262144 < (d.get n.toNat).now.length + b.length) (hb : d.blow.1 = false) :
    d.append n b = (0, d.blow.2.put n.toNat ⟨(d.get n.toNat).now ++ b, (d.blow.2.get n.toNat).syn, (d.blow.2.get n.toNat).oth⟩) := by
  rw [Dk.append, hm, if_neg (by decide), if_neg (by omega), Dk.change, if_neg (by rw [List.length_append]; omega), if_neg (by rw [hb]; decide), Bool.or_false]
theorem put_big {d : Dk} {n : Int} {b : List UInt8} (hm : d.may n = 0) (h : 262144 < b.length) : d.putf n b = (6, d) := by
  rw [Dk.putf, hm, if_neg (by decide), Dk.change, if_pos h]
theorem put_burn {d : Dk} {n : Int} {b : List UInt8} (hm : d.may n = 0) (h : ¬ 262144 < b.length) (hb : d.blow.1 = true) : d.putf n b = (4, d.blow.2) := by
  rw [Dk.putf, hm, if_neg (by decide), Dk.change, if_neg h, if_pos hb]
theorem put_done {d : Dk} {n : Int} {b : List UInt8} (hm : d.may n = 0) (h : ¬ 262144 < b.length) (hb : d.blow.1 = false) :
    d.putf n b = (0, d.blow.2.put n.toNat ⟨b, (d.blow.2.get n.toNat).syn, true⟩) := by
  rw [Dk.putf, hm, if_neg (by decide), Dk.change, if_neg h, if_neg (by rw [hb]; decide), Bool.or_true]
theorem cut_bad {d : Dk} {n k : Int} (hm : d.may n = 0) (h : k < 0 ∨ (d.get n.toNat).now.length < k) : d.cutf n k = (1, d) := by
  rw [Dk.cutf, hm, if_neg (by decide), if_pos h]
theorem cut_burn {d : Dk} {n k : Int} (hm : d.may n = 0) (h : ¬ (k < 0 ∨ (d.get n.toNat).now.length < k)) (hl : (d.get n.toNat).now.length ≤ 262144) (hb : d.blow.1 = true) : d.cutf n k = (4, d.blow.2) := by
  rw [Dk.cutf, hm, if_neg (by decide), if_neg h, Dk.change, if_neg (by simp; omega), if_pos hb]
theorem cut_done {d : Dk} {n k : Int} (hm : d.may n = 0) (h : ¬ (k < 0 ∨ (d.get n.toNat).now.length < k)) (hl : (d.get n.toNat).now.length ≤ 262144) (hb : d.blow.1 = false) :
    d.cutf n k = (0, d.blow.2.put n.toNat ⟨(d.get n.toNat).now.take k.toNat, (d.blow.2.get n.toNat).syn, true⟩) := by
  rw [Dk.cutf, hm, if_neg (by decide), if_neg h, Dk.change, if_neg (by simp; omega), if_neg (by rw [hb]; decide), Bool.or_true]
theorem sync_burn {d : Dk} {n : Int} (hm : d.may n = 0) (hb : d.blow.1 = true) : d.sync n = (4, d.blow.2) := by
  rw [Dk.sync, hm, if_neg (by decide), if_pos hb]
theorem sync_done {d : Dk} {n : Int} (hm : d.may n = 0) (hb : d.blow.1 = false) : d.sync n = (0, d.blow.2.put n.toNat (d.blow.2.get n.toNat).settled) := by
  rw [Dk.sync, hm, if_neg (by decide), if_neg (by rw [hb]; decide)]
/-! What holds of a disk stays so. -/
theorem new_good : Dk.new.Good := ⟨⟨by decide, by decide, fun _ => List.nil_prefix⟩, ⟨by decide, by decide, fun _ => List.nil_prefix⟩, ⟨by decide, by decide, fun _ => List.nil_prefix⟩, by decide⟩
theorem blow_good {d : Dk} (g : d.Good) : d.blow.2.Good := by
  have h := g.fuse
  refine ⟨by rw [blow_f0]; exact g.f0, by rw [blow_f1]; exact g.f1, by rw [blow_f2]; exact g.f2, ?_⟩
  unfold Dk.blow; (repeat' split) <;> simp <;> omega
theorem blow_lives (d : Dk) : d.blow.2.lives = d.lives := by
  unfold Dk.blow; (repeat' split) <;> rfl
theorem put_lives (d : Dk) (n : Nat) (f : Fl) : (d.put n f).lives = d.lives := by
  unfold Dk.put; (repeat' split) <;> rfl
theorem get_good {d : Dk} (g : d.Good) (n : Nat) : (d.get n).Good := by
  unfold Dk.get; (repeat' split)
  · exact g.f0
  · exact g.f1
  · exact g.f2
theorem put_good {d : Dk} (g : d.Good) (n : Nat) {f : Fl} (h : f.Good) : (d.put n f).Good := by
  unfold Dk.put; (repeat' split)
  · exact ⟨h, g.f1, g.f2, g.fuse⟩
  · exact ⟨g.f0, h, g.f2, g.fuse⟩
  · exact ⟨g.f0, g.f1, h, g.fuse⟩
theorem get_blow (d : Dk) (n : Nat) : d.blow.2.get n = d.get n := by
  unfold Dk.get; (repeat' split)
  · exact blow_f0 d
  · exact blow_f1 d
  · exact blow_f2 d
theorem change_good {d : Dk} (g : d.Good) {n : Nat} {b : List UInt8} {oth : Bool} (h : oth = false → (d.get n).now <+: b) : (d.change n b oth).2.Good ∧ (d.change n b oth).2.lives = d.lives := by
  unfold Dk.change
  split
  · exact ⟨g, rfl⟩
  · split
    · exact ⟨blow_good g, blow_lives d⟩
    · refine ⟨put_good (blow_good g) _ ⟨by simp; omega, by rw [get_blow]; exact (get_good g n).syn, fun e => ?_⟩, by rw [put_lives, blow_lives]⟩
      simp only [Bool.or_eq_false_iff] at e
      rw [get_blow] at e ⊢
      exact ((get_good g n).pre e.1).trans (h e.2)
theorem append_good {d : Dk} (g : d.Good) (n : Int) (b : List UInt8) : (d.append n b).2.Good ∧ (d.append n b).2.lives = d.lives := by
  unfold Dk.append
  split
  · exact ⟨g, rfl⟩
  · split
    · exact ⟨g, rfl⟩
    · exact change_good g fun _ => List.prefix_append _ _
theorem putf_good {d : Dk} (g : d.Good) (n : Int) (b : List UInt8) : (d.putf n b).2.Good ∧ (d.putf n b).2.lives = d.lives := by
  unfold Dk.putf
  split
  · exact ⟨g, rfl⟩
  · exact change_good g fun h => by cases h
theorem cutf_good {d : Dk} (g : d.Good) (n k : Int) : (d.cutf n k).2.Good ∧ (d.cutf n k).2.lives = d.lives := by
  unfold Dk.cutf
  split
  · exact ⟨g, rfl⟩
  · split
    · exact ⟨g, rfl⟩
    · exact change_good g fun h => by cases h
theorem sync_good {d : Dk} (g : d.Good) (n : Int) : (d.sync n).2.Good ∧ (d.sync n).2.lives = d.lives := by
  unfold Dk.sync
  split
  · exact ⟨g, rfl⟩
  · split
    · exact ⟨blow_good g, blow_lives d⟩
    · exact ⟨put_good (blow_good g) _ ⟨(get_good (blow_good g) _).now, (get_good (blow_good g) _).now, fun _ => List.prefix_rfl⟩, by rw [put_lives, blow_lives]⟩
theorem cut_len {f : Fl} (g : f.Good) (k : Int) : (f.cut k).length ≤ 262144 := by
  have h1 := g.now
  have h2 := g.syn
  unfold Fl.cut
  (repeat' split)
  · exact h2
  · simp; omega
  · simp; omega
theorem fcrash_good {f : Fl} (g : f.Good) (k : Int) : (f.crash k).Good := ⟨cut_len g k, cut_len g k, fun _ => List.prefix_rfl⟩
theorem crash_good {d : Dk} (g : d.Good) (ks : List Int) : (d.crashAll ks).Good ∧ (d.crashAll ks).lives = d.lives := ⟨⟨fcrash_good g.f0 _, fcrash_good g.f1 _, fcrash_good g.f2 _, g.fuse⟩, rfl⟩
theorem on_good {d : Dk} (g : d.Good) : d.on.Good ∧ d.on.lives ≤ d.lives + 1 := by
  unfold Dk.on
  (repeat' split)
  · exact ⟨⟨g.f0, g.f1, g.f2, show 0 < 2 ^ 63 by decide⟩, Nat.le_refl _⟩
  · exact ⟨⟨fcrash_good g.f0 _, fcrash_good g.f1 _, fcrash_good g.f2 _, show 0 < 2 ^ 63 by decide⟩, Nat.le_refl _⟩
  · exact ⟨g, Nat.le_succ _⟩
theorem arm_good {d : Dk} (g : d.Good) {n : Int} (hn : n ≤ 9223372036854775807) : (d.arm n).Good ∧ (d.arm n).lives = d.lives := ⟨⟨g.f0, g.f1, g.f2, by show (max n 0).toNat < 2 ^ 63; omega⟩, rfl⟩

end Go.Proofs.Ytipjoghlmgmhaaa
