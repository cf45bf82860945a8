import Derived.Test.YtkhjnopmkihmiaaMg11
import Derived.Test.YtkhjnopmkihmiaaAmRow
namespace Go.Proofs.Ytkhjnopmkihmiaa
open Go Go.Am Go.Proofs
set_option linter.unusedSimpArgs false
set_option linter.unusedVariables false
set_option maxRecDepth 20000

/-! A message as an argument. -/
abbrev tyE : Ty := .pair (.int .u64) (.pair (.int .u64) (.pair (.sl (.int .i64)) .unit))
abbrev tyM : Ty := .pair (.int .i64) (.pair (.int .i64) (.pair (.int .i64) (.pair (.int .u64) (.pair (.int .u64) (.pair (.int .u64) (.pair (.int .u64) (.pair (.sl tyE) (.pair .bys .unit))))))))
abbrev EV := Int × Int × List Int × Unit
abbrev MV := Int × Int × Int × Int × Int × Int × Int × List EV × List UInt8 × Unit
def enOf (x : EV) : En := ⟨x.1.toNat, x.2.1.toNat, x.2.2.1⟩
def mgOf (x : MV) : Mg := ⟨x.1, x.2.1, x.2.2.1, x.2.2.2.1.toNat, x.2.2.2.2.1.toNat, x.2.2.2.2.2.1.toNat, x.2.2.2.2.2.2.1.toNat, x.2.2.2.2.2.2.2.1.map enOf, x.2.2.2.2.2.2.2.2.1⟩
theorem u64_of {z : Int} (h : (Lit.int .u64 z).wf = true) : (z.toNat : Int) = z ∧ z.toNat < 2 ^ 64 := by
  have := bounds_u64 h
  omega
theorem en_ok (x : EV) (h : tyE.ok x) : (enOf x).Ok ∧ tyE.avs x = (enOf x).cells := by
  obtain ⟨a, b, l, ⟨⟩⟩ := x
  obtain ⟨h1, h2, h3, _⟩ := h
  have k1 := u64_of (z := a) h1
  have k2 := u64_of (z := b) h2
  refine ⟨⟨k1.2, k2.2, fun v hv => bounds_i64 (n := v) (h3 v hv)⟩, ?_⟩
  show [AV.raw (.int .u64 a)] ++ ([AV.raw (.int .u64 b)] ++ ([AV.sls l.length (l.flatMap fun z => [AV.raw (.int .i64 z)])] ++ [])) = [AV.raw (.int .u64 (a.toNat : Int)), .raw (.int .u64 (b.toNat : Int)), .sls l.length (l.map mI)]
  rw [k1.1, k2.1, flat_one]
  rfl
theorem flat_congr {α β : Type} {f g : α → List β} : ∀ (l : List α), (∀ x ∈ l, f x = g x) → l.flatMap f = l.flatMap g
  | [], _ => rfl
  | x :: l, h => by rw [List.flatMap_cons, List.flatMap_cons, h x (List.mem_cons_self), flat_congr l fun y hy => h y (List.mem_cons_of_mem _ hy)]
theorem mg_ok (x : MV) (h : tyM.ok x) : (mgOf x).Ok ∧ tyM.arg x = .agg (mgOf x).cells := by
  obtain ⟨a, b, c, d, e, f, g, l, y, ⟨⟩⟩ := x
  obtain ⟨h1, h2, h3, h4, h5, h6, h7, h8, _⟩ := h
  have k4 := u64_of (z := d) h4
  have k5 := u64_of (z := e) h5
  have k6 := u64_of (z := f) h6
  have k7 := u64_of (z := g) h7
  have hl : List.flatMap (α := EV) (β := AV) tyE.avs l = (List.map (α := EV) enOf l).flatMap En.cells := by
    rw [List.flatMap_map]
    exact flat_congr (α := EV) l fun x hx => (en_ok x (h8 x hx)).2
  refine ⟨⟨bounds_i64 (n := a) h1, bounds_i64 (n := b) h2, bounds_i64 (n := c) h3, k4.2, k5.2, k6.2, k7.2, fun v hv => ?_⟩, ?_⟩
  · obtain ⟨z, hz, rfl⟩ := List.mem_map.1 hv
    exact (en_ok z (h8 z hz)).1
  · show AV.agg ([AV.raw (.int .i64 a)] ++ ([AV.raw (.int .i64 b)] ++ ([AV.raw (.int .i64 c)] ++ ([AV.raw (.int .u64 d)] ++ ([AV.raw (.int .u64 e)] ++ ([AV.raw (.int .u64 f)] ++ ([AV.raw (.int .u64 g)] ++ ([AV.sls (List.length (α := EV) l) (List.flatMap tyE.avs l)] ++ ([AV.bys y] ++ []))))))))) = AV.agg [mI a, mI b, mI c, AV.raw (.int .u64 (d.toNat : Int)), .raw (.int .u64 (e.toNat : Int)), .raw (.int .u64 (f.toNat : Int)), .raw (.int .u64 (g.toNat : Int)), .sls (List.map enOf l).length ((List.map enOf l).flatMap En.cells), .bys y]
    rw [k4.1, k5.1, k6.1, k7.1, List.length_map (α := EV)]
    exact congrArg (fun t => AV.agg [mI a, mI b, mI c, AV.raw (.int .u64 d), .raw (.int .u64 e), .raw (.int .u64 f), .raw (.int .u64 g), .sls (List.length (α := EV) l) t, .bys y]) hl
theorem sum_ge {α : Type} (f : α → Nat) : ∀ (l : List α) (x : α), x ∈ l → f x ≤ (l.map f).sum
  | [], x, h => by cases h
  | y :: l, x, h => by
    rw [List.map_cons, List.sum_cons]
    rcases List.mem_cons.1 h with rfl | h
    · omega
    · have := sum_ge f l x h; omega
theorem sum_len {α : Type} (f : α → Nat) (hf : ∀ x, 1 ≤ f x) : ∀ l : List α, l.length ≤ (l.map f).sum
  | [] => by simp
  | y :: l => by
    have := sum_len f hf l
    have := hf y
    rw [List.map_cons, List.sum_cons, List.length_cons]; omega
structure Mg.Fits (m : Mg) : Prop where
  ents : m.ents.length ≤ 1048576
  body : m.body.length ≤ 1048576
  rows : ∀ e ∈ m.ents, e.row.length ≤ 1048576
theorem mg_fits (x : MV) (h : tyM.bulk x ≤ 1048576) : (mgOf x).Fits := by
  obtain ⟨a, b, c, d, e, f, g, l, y, ⟨⟩⟩ := x
  obtain ⟨S, hS⟩ : ∃ S : Nat, S = (List.map (α := EV) (β := Nat) tyE.bulk l).sum := ⟨_, rfl⟩
  have hb : 1 + (1 + (1 + (1 + (1 + (1 + (1 + (S + 1 + (y.length + 1 + 0)))))))) ≤ 1048576 := by subst hS; exact h
  have h1 : List.length (α := EV) l ≤ S := by subst hS; exact sum_len (α := EV) tyE.bulk (fun x => by show 1 ≤ 1 + (1 + (((x.2.2.1 : List Int).map fun _ : Int => 1).sum + 1 + 0)); omega) l
  refine ⟨by show (List.map (α := EV) enOf l).length ≤ _; rw [List.length_map (α := EV)]; exact Nat.le_trans h1 (by omega), by show y.length ≤ _; omega, fun v hv => ?_⟩
  obtain ⟨z, hz, rfl⟩ := List.mem_map.1 hv
  have h2 : tyE.bulk z ≤ S := by subst hS; exact sum_ge (α := EV) tyE.bulk l z hz
  have h3 : tyE.bulk z = 1 + (1 + (((z.2.2.1 : List Int).map fun _ : Int => 1).sum + 1 + 0)) := rfl
  have h4 := sum_len (fun _ : Int => 1) (fun _ => Nat.le_refl 1) (z.2.2.1 : List Int)
  show (z.2.2.1 : List Int).length ≤ _
  rw [h3] at h2
  exact Nat.le_trans h4 (by omega)
end Go.Proofs.Ytkhjnopmkihmiaa
