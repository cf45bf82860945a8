import Derived.Test.YtipjoghlmgmhaaaCk2
namespace Go.Proofs.Ytipjoghlmgmhaaa
open Go Go.Am Go.Proofs
set_option linter.unusedSimpArgs false
set_option linter.unusedVariables false
set_option maxRecDepth 20000
set_option maxHeartbeats 4000000

/-! The plain law: behind so many texts; with a fuse. -/
def sfx (x : Nat → List UInt8) (i : Nat) : Fl := if i = 0 then .none else slt i (x i)
abbrev Hx (x : Nat → List UInt8) (i : Nat) : Prop := ∀ j, j ≤ i → (x j).length ≤ 60000
theorem sfx_good {x : Nat → List UInt8} {i : Nat} (h : (x i).length ≤ 60000) : (sfx x i).Good := by
  unfold sfx; split
  · exact none_good
  · exact slt_good h
theorem sfx_fnd {x : Nat → List UInt8} {i : Nat} (hx : (x i).length ≤ 60000) (h : i < 1000) : fnd (sfx x i).now = (i, if i = 0 then [] else x i) := by
  unfold sfx; split
  · rename_i h; subst h; exact fnd_nil
  · exact fnd_frame (by omega) hx
theorem sfx_set (x : Nat → List UInt8) (i : Nat) : sfx x i = ⟨(sfx x i).now, (sfx x i).now, false⟩ := by
  unfold sfx; split <;> rfl
def C (x : Nat → List UInt8) (i : Nat) : Dk := if i % 2 = 1 then ⟨.none, sfx x i, sfx x (i - 1), false, false, 0, 1⟩ else ⟨.none, sfx x (i - 1), sfx x i, false, false, 0, 1⟩
theorem C_odd {x : Nat → List UInt8} {i : Nat} (h : i % 2 = 1) : C x i = ⟨.none, sfx x i, sfx x (i - 1), false, false, 0, 1⟩ := if_pos h
theorem C_even {x : Nat → List UInt8} {i : Nat} (h : ¬ i % 2 = 1) : C x i = ⟨.none, sfx x (i - 1), sfx x i, false, false, 0, 1⟩ := if_neg h
theorem C_good {x : Nat → List UInt8} {i : Nat} (hx : Hx x i) : (C x i).Good := by
  unfold C; split <;> exact ⟨none_good, sfx_good (hx _ (by omega)), sfx_good (hx _ (by omega)), show 0 < 2 ^ 63 by decide⟩
theorem C_off (x : Nat → List UInt8) (i : Nat) : (C x i).off = false := by unfold C; split <;> rfl
theorem C_fuse (x : Nat → List UInt8) (i : Nat) : (C x i).fuse = 0 := by unfold C; split <;> rfl
theorem C_last {x : Nat → List UInt8} {i : Nat} (hx : Hx x i) (h : i < 1000) : (C x i).lastf = if i = 0 then (0, 0, []) else (if i % 2 = 1 then 1 else 2, i, x i) := by
  by_cases h1 : i % 2 = 1
  · have e := C_odd (x := x) h1
    have hl : (C x i).lastf = _ := lastf_of (a := i) (b := i - 1) (by rw [e]; exact sfx_fnd (hx _ (Nat.le_refl _)) h) (by rw [e]; exact sfx_fnd (hx _ (by omega)) (by omega))
    rw [hl, if_neg (by omega), if_neg (by omega), if_neg (by omega), if_neg (by omega), if_pos h1]
  · have e := C_even (x := x) h1
    have hl : (C x i).lastf = _ := lastf_of (a := i - 1) (b := i) (by rw [e]; exact sfx_fnd (hx _ (by omega)) (by omega)) (by rw [e]; exact sfx_fnd (hx _ (Nat.le_refl _)) h)
    rw [hl]
    by_cases h0 : i = 0
    · subst h0; rfl
    · rw [if_neg (by omega), if_pos (by omega), if_neg h0, if_neg h0, if_neg h1]
theorem C_num {x : Nat → List UInt8} {i : Nat} (hx : Hx x i) (h : i < 1000) : (C x i).lastf.2.1 = i := by rw [C_last hx h]; split <;> simp_all
theorem C_to {x : Nat → List UInt8} {i : Nat} (hx : Hx x i) (h : i < 1000) : (C x i).to = if i % 2 = 1 then 2 else 1 := by
  rw [Dk.to, C_last hx h]
  by_cases h1 : i % 2 = 1
  · simp [h1, show ¬ i = 0 by omega]
  · by_cases h0 : i = 0
    · simp [h0]
    · simp [h1, h0]
theorem C_put {x : Nat → List UInt8} {i : Nat} (hx : Hx x i) (h : i < 1000) : (C x i).put (C x i).to (slt (i + 1) (x (i + 1))) = C x (i + 1) := by
  rw [C_to hx h]
  by_cases h1 : i % 2 = 1
  · rw [C_odd h1, C_even (by omega), if_pos h1, Nat.add_sub_cancel]
    simp [sfx, Dk.put]
  · rw [C_even h1, C_odd (by omega), if_neg h1, Nat.add_sub_cancel]
    simp [sfx, Dk.put]
theorem C_save {x : Nat → List UInt8} {i : Nat} (hx : Hx x (i + 1)) (h : i < 900) : (C x i).save (x (i + 1)) = (0, C x (i + 1)) := by
  have hx' : Hx x i := fun j hj => hx j (by omega)
  have hn := C_num hx' (show i < 1000 by omega)
  rw [save_done (C_off x i) (C_fuse x i) (hx _ (Nat.le_refl _)) (by rw [hn]; omega), hn, C_put hx' (by omega)]
theorem C_load {x : Nat → List UInt8} {i : Nat} (hx : Hx x i) (h : i < 900) : (C x i).load = if i = 0 then (0, [], 5) else (i, x i, 0) := by
  rw [load_on (C_off x i), C_last hx (by omega)]
  by_cases h0 : i = 0
  · simp [h0]
  · simp only [if_neg h0]; split <;> simp
theorem load_same {d d' : Dk} (h1 : d.f1.now = d'.f1.now) (h2 : d.f2.now = d'.f2.now) (h3 : d.off = d'.off) : d.load = d'.load := by
  unfold Dk.load Dk.lastf; rw [h1, h2, h3]
theorem lastf_same {d d' : Dk} (h1 : d.f1 = d'.f1) (h2 : d.f2 = d'.f2) : d.lastf = d'.lastf := by
  unfold Dk.lastf; rw [h1, h2]

/-! A save with a fuse. -/
def Dk.burnt (d : Dk) : Dk := { d with fuse := 0, off := true, crd := false }
theorem blow_one {d : Dk} (h : d.fuse = 1) : d.blow = (true, d.burnt) := by rw [Dk.blow, if_neg (by omega), if_neg (by omega), h]; rfl
theorem blow_more {d : Dk} (h : 2 ≤ d.fuse) : d.blow = (false, { d with fuse := d.fuse - 1 }) := by rw [Dk.blow, if_neg (by omega), if_pos (by omega)]
theorem save_first {d : Dk} {b : List UInt8} (ho : d.off = false) (hf : d.fuse = 1) (hb : b.length ≤ 60000) (hn : d.lastf.2.1 < 18446744073709551615) : d.save b = (4, d.burnt) := by
  have hl := frame_len (d.lastf.2.1 + 1) b
  have e1 : d.putf (d.to : Int) (frame (d.lastf.2.1 + 1) b) = (4, d.burnt) := by
    rw [put_burn (may_12 d.to_lt ho) (by omega) (by rw [blow_one hf]), blow_one hf]
  unfold Dk.save
  rw [if_neg (by omega), if_neg (by rw [ho]; decide), if_neg (by omega)]
  show (if (d.putf (d.to : Int) (frame (d.lastf.2.1 + 1) b)).1 ≠ 0 then d.putf (d.to : Int) (frame (d.lastf.2.1 + 1) b) else (d.putf (d.to : Int) (frame (d.lastf.2.1 + 1) b)).2.sync (d.to : Int)) = _
  rw [e1]; rfl
theorem save_second {d : Dk} {b : List UInt8} (ho : d.off = false) (hf : d.fuse = 2) (hb : b.length ≤ 60000) (hn : d.lastf.2.1 < 18446744073709551615) :
    d.save b = (4, (d.put d.to ⟨frame (d.lastf.2.1 + 1) b, (d.get d.to).syn, true⟩).burnt) := by
  have hl := frame_len (d.lastf.2.1 + 1) b
  have e0 := blow_more (d := d) (by omega)
  have e1 : d.putf (d.to : Int) (frame (d.lastf.2.1 + 1) b) = (0, ({ d with fuse := d.fuse - 1 } : Dk).put d.to ⟨frame (d.lastf.2.1 + 1) b, (d.get d.to).syn, true⟩) := by
    rw [put_done (may_12 d.to_lt ho) (by omega) (by rw [e0]), e0]; rfl
  have e2 : (({ d with fuse := d.fuse - 1 } : Dk).put d.to ⟨frame (d.lastf.2.1 + 1) b, (d.get d.to).syn, true⟩).sync (d.to : Int) = (4, (d.put d.to ⟨frame (d.lastf.2.1 + 1) b, (d.get d.to).syn, true⟩).burnt) := by
    have hb1 := blow_one (d := ({ d with fuse := d.fuse - 1 } : Dk).put d.to ⟨frame (d.lastf.2.1 + 1) b, (d.get d.to).syn, true⟩) (by rw [put_fuse]; show d.fuse - 1 = 1; omega)
    rw [sync_burn (may_12 d.to_lt (by rw [put_off]; exact ho)) (by rw [hb1]), hb1]
    congr 1
    unfold Dk.put Dk.burnt; (repeat' split) <;> rfl
  unfold Dk.save
  rw [if_neg (by omega), if_neg (by rw [ho]; decide), if_neg (by omega)]
  show (if (d.putf (d.to : Int) (frame (d.lastf.2.1 + 1) b)).1 ≠ 0 then d.putf (d.to : Int) (frame (d.lastf.2.1 + 1) b) else (d.putf (d.to : Int) (frame (d.lastf.2.1 + 1) b)).2.sync (d.to : Int)) = _
  rw [e1]
  exact e2
theorem save_third {d : Dk} {b : List UInt8} (ho : d.off = false) (hf : 3 ≤ d.fuse) (hb : b.length ≤ 60000) (hn : d.lastf.2.1 < 18446744073709551615) :
    d.save b = (0, { d.put d.to (slt (d.lastf.2.1 + 1) b) with fuse := d.fuse - 2 }) := by
  have hl := frame_len (d.lastf.2.1 + 1) b
  have h3 := d.to_lt
  have e0 := blow_more (d := d) (by omega)
  have e1 : d.putf (d.to : Int) (frame (d.lastf.2.1 + 1) b) = (0, ({ d with fuse := d.fuse - 1 } : Dk).put d.to ⟨frame (d.lastf.2.1 + 1) b, (d.get d.to).syn, true⟩) := by
    rw [put_done (may_12 h3 ho) (by omega) (by rw [e0]), e0]; rfl
  have e2 : (({ d with fuse := d.fuse - 1 } : Dk).put d.to ⟨frame (d.lastf.2.1 + 1) b, (d.get d.to).syn, true⟩).sync (d.to : Int) = (0, { d.put d.to (slt (d.lastf.2.1 + 1) b) with fuse := d.fuse - 2 }) := by
    have hb1 := blow_more (d := ({ d with fuse := d.fuse - 1 } : Dk).put d.to ⟨frame (d.lastf.2.1 + 1) b, (d.get d.to).syn, true⟩) (by rw [put_fuse]; show 2 ≤ d.fuse - 1; omega)
    rw [sync_done (may_12 h3 (by rw [put_off]; exact ho)) (by rw [hb1]), hb1]
    congr 1
    rw [put_fuse, Int.toNat_natCast]
    show ({ ({ d with fuse := d.fuse - 1 } : Dk).put d.to ⟨frame (d.lastf.2.1 + 1) b, (d.get d.to).syn, true⟩ with fuse := d.fuse - 1 - 1 } : Dk).put d.to _ = _
    generalize d.to = n at *
    obtain rfl | rfl | rfl : n = 0 ∨ n = 1 ∨ n = 2 := by omega
    all_goals rfl
  unfold Dk.save
  rw [if_neg (by omega), if_neg (by rw [ho]; decide), if_neg (by omega)]
  show (if (d.putf (d.to : Int) (frame (d.lastf.2.1 + 1) b)).1 ≠ 0 then d.putf (d.to : Int) (frame (d.lastf.2.1 + 1) b) else (d.putf (d.to : Int) (frame (d.lastf.2.1 + 1) b)).2.sync (d.to : Int)) = _
  rw [e1]
  exact e2
/-- Settled files lose nothing. -/
theorem cut_settled {f : Fl} (h : f = ⟨f.now, f.now, false⟩) (k : Int) : f.cut k = f.now := by
  rw [h]; unfold Fl.cut
  split
  · rfl
  · simp only [Bool.false_eq_true, if_false, Nat.sub_self, Nat.min_zero, Nat.add_zero, List.take_length]
def Dk.Set (d : Dk) : Prop := d.f0 = ⟨d.f0.now, d.f0.now, false⟩ ∧ d.f1 = ⟨d.f1.now, d.f1.now, false⟩ ∧ d.f2 = ⟨d.f2.now, d.f2.now, false⟩
theorem fcrash_set {f : Fl} (h : f = ⟨f.now, f.now, false⟩) (k : Int) : f.crash k = f := by
  rw [Fl.crash, cut_settled h k]; exact h.symm
theorem crash_set {d : Dk} (h : d.Set) (ks : List Int) : d.crashAll ks = { d with off := true, crd := true } := by
  obtain ⟨h0, h1, h2⟩ := h
  unfold Dk.crashAll Dk.crashTo
  simp only [fcrash_set h0, fcrash_set h1, fcrash_set h2]
theorem C_set (x : Nat → List UInt8) (i : Nat) : (C x i).Set := by
  unfold C; split <;> exact ⟨rfl, sfx_set x _, sfx_set x _⟩
theorem on_crashed {d : Dk} (h1 : d.off = true) (h2 : d.crd = true) : d.on = { d with off := false, fuse := 0, lives := d.lives + 1 } := by
  rw [Dk.on, if_pos h1, if_pos h2]; rfl
/-- With other power, the same files. -/
def Cx (x : Nat → List UInt8) (i : Nat) (o c : Bool) (f l : Nat) : Dk := { C x i with off := o, crd := c, fuse := f, lives := l }
theorem Cx_good {x : Nat → List UInt8} {i : Nat} (hx : Hx x i) {o c : Bool} {f l : Nat} (hf : f < 2 ^ 63) : (Cx x i o c f l).Good := ⟨(C_good hx).f0, (C_good hx).f1, (C_good hx).f2, hf⟩
theorem Cx_crash (x : Nat → List UInt8) (i : Nat) (o c : Bool) (f l : Nat) (ks : List Int) : (Cx x i o c f l).crashAll ks = Cx x i true true f l := crash_set (d := Cx x i o c f l) (C_set x i) ks
theorem Cx_on (x : Nat → List UInt8) (i f l : Nat) : (Cx x i true true f l).on = Cx x i false true 0 (l + 1) := on_crashed rfl rfl
theorem Cx_load {x : Nat → List UInt8} {i : Nat} (hx : Hx x i) (h : i < 900) {c : Bool} {f l : Nat} : (Cx x i false c f l).load = if i = 0 then (0, [], 5) else (i, x i, 0) := by
  rw [load_same (d := Cx x i false c f l) (d' := C x i) rfl rfl (show false = (C x i).off from (C_off x i).symm)]; exact C_load hx h
theorem C_arm (x : Nat → List UInt8) (i : Nat) (f : Int) : (C x i).arm f = Cx x i false false (max f 0).toNat 1 := by
  unfold C Cx Dk.arm C; split <;> rfl
theorem C_cx (x : Nat → List UInt8) (i : Nat) : C x i = Cx x i false false 0 1 := by
  unfold Cx C; split <;> rfl
theorem Cx_last {x : Nat → List UInt8} {i : Nat} {o c : Bool} {f l : Nat} : (Cx x i o c f l).lastf = (C x i).lastf := rfl
theorem Cx_save1 {x : Nat → List UInt8} {i : Nat} (hx : Hx x (i + 1)) (h : i < 900) : (Cx x i false false 1 1).save (x (i + 1)) = (4, Cx x i true false 0 1) :=
  save_first (d := Cx x i false false 1 1) rfl rfl (hx _ (Nat.le_refl _)) (by rw [Cx_last, C_num (fun j hj => hx j (by omega)) (by omega)]; omega)
theorem Cx_save3 {x : Nat → List UInt8} {i f : Nat} (hx : Hx x (i + 1)) (h : i < 900) (hf : f = 0 ∨ 3 ≤ f) : (Cx x i false false f 1).save (x (i + 1)) = (0, Cx x (i + 1) false false (f - 2) 1) := by
  have hx' : Hx x i := fun j hj => hx j (by omega)
  have hn := C_num hx' (show i < 1000 by omega)
  rcases hf with rfl | hf
  · rw [← C_cx, C_save hx h, C_cx]
  · rw [save_third (d := Cx x i false false f 1) rfl hf (hx _ (Nat.le_refl _)) (by rw [Cx_last, hn]; omega)]
    congr 1
    have e := C_put hx' (show i < 1000 by omega)
    have ht : (Cx x i false false f 1).to = (C x i).to := rfl
    rw [Cx_last, hn, ht]
    show ({ (Cx x i false false f 1).put (C x i).to (slt (i + 1) (x (i + 1))) with fuse := f - 2 } : Dk) = { C x (i + 1) with off := false, crd := false, fuse := f - 2, lives := 1 }
    rw [← e]
    generalize (C x i).to = n
    unfold Dk.put Cx; (repeat' split) <;> rfl
/-- The new text lies there, but it is not synced. -/
def Ex (x : Nat → List UInt8) (i : Nat) : Dk := ((C x i).put (C x i).to ⟨frame (i + 1) (x (i + 1)), ((C x i).get (C x i).to).syn, true⟩).burnt
theorem Cx_save2 {x : Nat → List UInt8} {i : Nat} (hx : Hx x (i + 1)) (h : i < 900) : (Cx x i false false 2 1).save (x (i + 1)) = (4, Ex x i) := by
  have hx' : Hx x i := fun j hj => hx j (by omega)
  have hn := C_num hx' (show i < 1000 by omega)
  rw [save_second (d := Cx x i false false 2 1) rfl rfl (hx _ (Nat.le_refl _)) (by rw [Cx_last, hn]; omega), Cx_last, hn]
  congr 1
  have ht : (Cx x i false false 2 1).to = (C x i).to := rfl
  rw [ht, Ex]
  generalize (C x i).to = n
  have hl : (C x i).lives = 1 := by unfold C; split <;> rfl
  unfold Dk.put Dk.burnt Cx Dk.get; (repeat' split) <;> simp [hl]
theorem Ex_eq {x : Nat → List UInt8} {i : Nat} (hx : Hx x i) (h : i < 900) : Ex x i = if i % 2 = 1 then ⟨.none, sfx x i, ⟨frame (i + 1) (x (i + 1)), (sfx x (i - 1)).now, true⟩, true, false, 0, 1⟩ else ⟨.none, ⟨frame (i + 1) (x (i + 1)), (sfx x (i - 1)).now, true⟩, sfx x i, true, false, 0, 1⟩ := by
  have hs := sfx_set x (i - 1)
  rw [Ex, C_to hx (by omega)]
  by_cases h1 : i % 2 = 1
  · rw [if_pos h1, if_pos h1, C_odd h1]
    show (⟨.none, sfx x i, ⟨frame (i + 1) (x (i + 1)), (sfx x (i - 1)).syn, true⟩, true, false, 0, 1⟩ : Dk) = _
    rw [show (sfx x (i - 1)).syn = (sfx x (i - 1)).now by rw [hs]]
  · rw [if_neg h1, if_neg h1, C_even h1]
    show (⟨.none, ⟨frame (i + 1) (x (i + 1)), (sfx x (i - 1)).syn, true⟩, sfx x i, true, false, 0, 1⟩ : Dk) = _
    rw [show (sfx x (i - 1)).syn = (sfx x (i - 1)).now by rw [hs]]
theorem Ex_good {x : Nat → List UInt8} {i : Nat} (hx : Hx x (i + 1)) (h : i < 900) : (Ex x i).Good := by
  have g := sfx_good (x := x) (i := i) (hx _ (by omega))
  have g1 := sfx_good (x := x) (i := i - 1) (hx _ (by omega))
  have hl := frame_len (i + 1) (x (i + 1))
  have hb := hx (i + 1) (Nat.le_refl _)
  have gf : (⟨frame (i + 1) (x (i + 1)), (sfx x (i - 1)).now, true⟩ : Fl).Good := ⟨by show (frame (i + 1) (x (i + 1))).length ≤ _; omega, g1.now, fun h => by cases h⟩
  rw [Ex_eq (fun j hj => hx j (by omega)) h]; split <;> exact ⟨none_good, by first | exact g | exact gf, by first | exact g | exact gf, show 0 < 2 ^ 63 by decide⟩
theorem cut_new {n : Nat} {b s : List UInt8} {k : Int} (hn : n < 2 ^ 64) (hb : b.length ≤ 60000) : fnd ((⟨frame n b, s, true⟩ : Fl).cut k) = (n, b) ∨ fnd ((⟨frame n b, s, true⟩ : Fl).cut k) = (0, []) ∨ (⟨frame n b, s, true⟩ : Fl).cut k = s := by
  unfold Fl.cut
  split
  · exact .inr (.inr rfl)
  · simp only [if_true]
    by_cases hk : k.toNat < (frame n b).length
    · rw [Nat.min_eq_left (by omega)]; exact .inr (.inl (fnd_cut hb hk))
    · rw [Nat.min_eq_right (by omega), List.take_length]; exact .inl (fnd_frame hn hb)
theorem Ex_load {x : Nat → List UInt8} {i : Nat} (hx : Hx x (i + 1)) (h : i < 900) (a b : Int) :
    ∃ n t e, ((Ex x i).crashAll [0, a, b]).on.load = (n, t, e) ∧ n < 2 ^ 64 ∧ t.length ≤ 60000 ∧ (e = 5 ∧ i = 0 ∨ e = 0 ∧ (1 ≤ i ∧ t = x i ∨ t = x (i + 1))) := by
  have hx' : Hx x i := fun j hj => hx j (by omega)
  have hb1 := hx (i + 1) (Nat.le_refl _)
  have f1 := sfx_fnd (x := x) (i := i) (hx i (by omega)) (by omega)
  have f0 := sfx_fnd (x := x) (i := i - 1) (hx _ (by omega)) (by omega)
  have key : ∀ (d : Dk) (w : List UInt8), d.off = false → (d.f1.now = (sfx x i).now ∧ d.f2.now = w ∧ i % 2 = 1 ∨ d.f1.now = w ∧ d.f2.now = (sfx x i).now ∧ ¬ i % 2 = 1) → (fnd w = (i + 1, x (i + 1)) ∨ fnd w = (0, []) ∨ w = (sfx x (i - 1)).now) →
      ∃ n t e, d.load = (n, t, e) ∧ n < 2 ^ 64 ∧ t.length ≤ 60000 ∧ (e = 5 ∧ i = 0 ∨ e = 0 ∧ (1 ≤ i ∧ t = x i ∨ t = x (i + 1))) := by
    intro d w ho hd hw
    have hw2 : fnd w = (i + 1, x (i + 1)) ∨ ∃ p y, fnd w = (p, y) ∧ (p = 0 ∨ p < i) := by
      rcases hw with hw | hw | rfl
      · exact .inl hw
      · exact .inr ⟨_, _, hw, .inl rfl⟩
      · exact .inr ⟨_, _, f0, by omega⟩
    rw [load_on ho]
    have A : ∀ c, c ≠ 0 → d.lastf = (c, i + 1, x (i + 1)) → ∃ n t e, (if d.lastf.1 = 0 then (0, [], 5) else (d.lastf.2.1, d.lastf.2.2, 0)) = (n, t, e) ∧ n < 2 ^ 64 ∧ t.length ≤ 60000 ∧ (e = 5 ∧ i = 0 ∨ e = 0 ∧ (1 ≤ i ∧ t = x i ∨ t = x (i + 1))) := by
      intro c hc hl
      rw [hl, if_neg hc]
      exact ⟨i + 1, x (i + 1), 0, rfl, by omega, hb1, .inr ⟨rfl, .inr rfl⟩⟩
    have B : ∀ c, c ≠ 0 → 1 ≤ i → d.lastf = (c, i, x i) → ∃ n t e, (if d.lastf.1 = 0 then (0, [], 5) else (d.lastf.2.1, d.lastf.2.2, 0)) = (n, t, e) ∧ n < 2 ^ 64 ∧ t.length ≤ 60000 ∧ (e = 5 ∧ i = 0 ∨ e = 0 ∧ (1 ≤ i ∧ t = x i ∨ t = x (i + 1))) := by
      intro c hc h1 hl
      rw [hl, if_neg hc]
      exact ⟨i, x i, 0, rfl, by omega, hx' i (Nat.le_refl _), .inr ⟨rfl, .inl ⟨h1, rfl⟩⟩⟩
    rcases hd with ⟨d1, d2, hp⟩ | ⟨d1, d2, hp⟩
    · rcases hw2 with hw2 | ⟨p, y, hw2, hq⟩
      · exact A 2 (by decide) (by rw [lastf_of (d := d) (a := i) (b := i + 1) (by rw [d1]; exact f1) (by rw [d2]; exact hw2), if_neg (by omega), if_pos (by omega)])
      · exact B 1 (by decide) (by omega) (by rw [lastf_of (d := d) (a := i) (b := p) (by rw [d1]; exact f1) (by rw [d2]; exact hw2), if_neg (by omega), if_neg (by omega), if_neg (show ¬ i = 0 by omega)])
    · rcases hw2 with hw2 | ⟨p, y, hw2, hq⟩
      · exact A 1 (by decide) (by rw [lastf_of (d := d) (a := i + 1) (b := i) (by rw [d1]; exact hw2) (by rw [d2]; exact f1), if_neg (by omega), if_neg (by omega)])
      · by_cases h0 : i = 0
        · have hl : d.lastf = (0, 0, []) := by rw [lastf_of (d := d) (a := p) (b := i) (by rw [d1]; exact hw2) (by rw [d2]; exact f1), if_pos (by omega)]
          rw [hl]
          exact ⟨0, [], 5, rfl, by decide, by simp, .inl ⟨rfl, h0⟩⟩
        · exact B 2 (by decide) (by omega) (by rw [lastf_of (d := d) (a := p) (b := i) (by rw [d1]; exact hw2) (by rw [d2]; exact f1), if_neg (by omega), if_pos (by omega), if_neg h0])
  rw [Ex_eq hx' h]
  by_cases h1 : i % 2 = 1
  · rw [if_pos h1]
    refine key _ ((⟨frame (i + 1) (x (i + 1)), (sfx x (i - 1)).now, true⟩ : Fl).cut b) rfl (.inl ⟨?_, rfl, h1⟩) (cut_new (by omega) hb1)
    exact cut_settled (sfx_set x i) a
  · rw [if_neg h1]
    refine key _ ((⟨frame (i + 1) (x (i + 1)), (sfx x (i - 1)).now, true⟩ : Fl).cut a) rfl (.inr ⟨rfl, ?_, h1⟩) (cut_new (by omega) hb1)
    exact cut_settled (sfx_set x i) b
end Go.Proofs.Ytipjoghlmgmhaaa
