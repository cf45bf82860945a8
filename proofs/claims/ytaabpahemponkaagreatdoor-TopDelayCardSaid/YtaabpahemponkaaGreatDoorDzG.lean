/-
  TopDelay called gives true, for every input.
-/
import Derived.Test.YtaabpahemponkaaGreatDoorDyJ
import Derived.Test.YtaabpahemponkaaGreatDoorAmB
import Derived.Test.YtaabpahemponkaaGreatDoorDyX
import Derived.Test.YtaabpahemponkaaGreatDoorDzA
import Derived.Test.YtaabpahemponkaaGreatDoorDzB
import Derived.Test.YtaabpahemponkaaGreatDoorDzC
import Derived.Test.YtaabpahemponkaaGreatDoorDzD
import Derived.Test.YtaabpahemponkaaGreatDoorDzE
import Derived.Test.YtaabpahemponkaaGreatDoorDzF
set_option linter.unusedVariables false
set_option linter.unusedSimpArgs false
namespace Go.Ex
open Go Go.Am Go.RowKit
def StM (m : Nat) (w0 : World) (R : List (Nat × AV)) (outs : List (Nat × List AV)) (N : Nat) (act : Act) (w : World) : Prop :=
  ∃ g, (Gh.start w0).le g ∧ (∀ p, N ≤ p → g.loc p = none) ∧ XPre m (rL R) (join (hof (putAll .nil (celL outs))) AHeap.empty) g act w
theorem litM_in {l : List (Nat × List AV)} {p : Nat} {y : AO} (h : hof (putAll .nil (celL l)) p = some y) : ∃ q ∈ l, q.1 = p ∧ y = .cel q.2 := by
  obtain ⟨q, hq, e1, e2⟩ := putAll_some h
  obtain ⟨r, hr, rfl⟩ := List.mem_map.1 hq
  exact ⟨r, hr, e1, by rw [e2]; exact cel_ao r.2⟩
theorem disjM_lit {l : List (Nat × List AV)} {a b : Nat} (hl : l.all (fun q => Nat.blt q.1 a) = true) : Disj (hof (putAll .nil (celL l))) AHeap.empty a b :=
  ⟨fun _ _ _ => rfl, fun _ _ _ => rfl, fun p h1 h2 => by
    rcases Option.eq_none_or_eq_some (hof (putAll .nil (celL l)) p) with h | ⟨y, h⟩
    · exact h
    · obtain ⟨q, hq, e1, _⟩ := litM_in h
      have h3 : q.1 < a := Nat.le_of_ble_eq_true (List.all_eq_true.1 hl q hq)
      omega⟩
section
variable {P : Program} {m : Nat} {w0 : World} {c x y : Code} {R R' : List (Nat × AV)} {outs outs' : List (Nat × List AV)} {a b : Nat} {e : Exit} {Q : Exit → Act → World → Prop} {act : Act} {w : World}
theorem stM_node (h : CodeS P m c (rL R) (putAll .nil (celL outs)) a e (rL R') (putAll .nil (celL outs')) b) (ha : outs.all (fun q => Nat.blt q.1 a) = true) (hs : StM m w0 R outs a act w)
    (hk : ∀ act' w', StM m w0 R' outs' b act' w' → Q e act' w') : c.wp P Q act w := by
  obtain ⟨g, h1, h2, h3⟩ := hs
  refine wp_mono (h.2.2 _ g act w (disjM_lit ha) h3 (fun p hp _ => h2 p hp)) ?_
  rintro e' act' w' ⟨rfl, g', hx, hp⟩
  refine hk act' w' ⟨g', h1.trans hx.le, fun p hp' => ?_, hp⟩
  rw [hx.out p (.inr hp')]
  exact h2 p (Nat.le_trans h.1 hp')
theorem stM_seq (h : CodeS P m x (rL R) (putAll .nil (celL outs)) a .normal (rL R') (putAll .nil (celL outs')) b) (ha : outs.all (fun q => Nat.blt q.1 a) = true) (hs : StM m w0 R outs a act w)
    (hk : ∀ act' w', StM m w0 R' outs' b act' w' → y.wp P Q act' w') : (Code.seq x y).wp P Q act w :=
  wp_seq (stM_node h ha hs fun act' w' h => hk act' w' h)
end
end Go.Ex
set_option maxRecDepth 100000
namespace Go.Ex
open Go Go.Am Go.Proofs
def Qd (w0 : World) (e : Exit) (act : Act) (w : World) : Prop := e = .ret ∧ ∃ N, StM 118 w0 rT [] N act w
def Body (n : Nat) : Prop := ∀ (w0 : World) (x : Nat → Int) (act : Act) (w : World), StM 118 w0 (e2 n (dXs n x)) [] 3000 act w → (cRn 2 b4).wp Tryz.prog (Qd w0) act w
theorem rest_eq : cRn 2 b4 = Code.seq (k4 2) (Code.seq (k4 3) (Code.seq (k4 4) (Code.seq (k4 5) (Code.seq (k4 6) (Code.seq (k4 7) (Code.seq (k4 8) (Code.seq (k4 9) (Code.seq (k4 10) (Code.seq (k4 11) (cRn 12 b4)))))))))) := by kernel_rfl
def bl (l : List (Nat × List AV)) (a : Nat) : Prop := l.all (fun q => Nat.blt q.1 a) = true
theorem body_of {n : Nat} (h14 : TplOk Tryz.prog 14 (tpl14 n))
    (h2 : ∀ g x, Rn g n (k4 2) (e2 n (dXs n x)) [] 3000 .normal (e2 n (dXs n x)) [] 3000)
    (h3 : ∀ g x, Rn g n (k4 3) (e2 n (dXs n x)) [] 3000 .normal (e3 n x) [] 3000)
    (h4 : ∀ g x, Rn g n (k4 4) (e3 n x) [] 3000 .normal (e4 n x) (g4 n x) 3120)
    (h5 : ∀ g x, Rn g n (k4 5) (e4 n x) (g4 n x) 3120 .normal (e5 n x) (g5 g n x) 5283)
    (h6 : ∀ g x, Rn g n (k4 6) (e5 n x) (g5 g n x) 5283 .normal (e6 n x) (g6 g n x) 8199)
    (h7 : ∀ g x, Rn g n (k4 7) (e6 n x) (g6 g n x) 8199 .normal (e7 n x) (g7 g n x) 8199)
    (h8 : ∀ g x, Rn g n (k4 8) (e7 n x) (g7 g n x) 8199 .normal (e8 n x) (g8 g n x) 8687)
    (h9 : ∀ g x, Rn g n (k4 9) (e8 n x) (g8 g n x) 8687 .normal (e9 n x) (g8 g n x) 8687)
    (h10 : ∀ g x, Rn g n (k4 10) (e9 n x) (g8 g n x) 8687 .normal (e10 n x) (g8 g n x) 8687)
    (h11 : ∀ g x, Rn g n (k4 11) (e10 n x) (g8 g n x) 8687 .normal (e10 n x) (g8 g n x) 8687)
    (h12 : ∀ g x, xR g n (cRn 12 b4) (rL (e10 n x)) (ph (g8 g n x)) 8687 (kOc (rT.map (fun p => p.1)) [] 10883) = tsts (yg g x) n)
    (l4 : ∀ x, bl (g4 n x) 3120) (l5 : ∀ g x, bl (g5 g n x) 5283) (l6 : ∀ g x, bl (g6 g n x) 8199) (l7 : ∀ g x, bl (g7 g n x) 8199) (l8 : ∀ g x, bl (g8 g n x) 8687) : Body n := by
  intro w0 x act w hs
  obtain ⟨g, hg⟩ : ∃ g, g = gW := ⟨_, rfl⟩
  rw [rest_eq]
  have wf := wf4.2.2
  refine stM_seq (nodeR hg h14 wf.1 (h2 g x)) rfl hs fun _ _ hs => ?_
  refine stM_seq (nodeR hg h14 wf.2.1 (h3 g x)) rfl hs fun _ _ hs => ?_
  refine stM_seq (nodeR hg h14 wf.2.2.1 (h4 g x)) rfl hs fun _ _ hs => ?_
  refine stM_seq (nodeR hg h14 wf.2.2.2.1 (h5 g x)) (l4 x) hs fun _ _ hs => ?_
  refine stM_seq (nodeR hg h14 wf.2.2.2.2.1 (h6 g x)) (l5 g x) hs fun _ _ hs => ?_
  refine stM_seq (nodeR hg h14 wf.2.2.2.2.2.1 (h7 g x)) (l6 g x) hs fun _ _ hs => ?_
  refine stM_seq (nodeR hg h14 wf.2.2.2.2.2.2.1 (h8 g x)) (l7 g x) hs fun _ _ hs => ?_
  refine stM_seq (nodeR hg h14 wf.2.2.2.2.2.2.2.1 (h9 g x)) (l8 g x) hs fun _ _ hs => ?_
  refine stM_seq (nodeR hg h14 wf.2.2.2.2.2.2.2.2.1 (h10 g x)) (l8 g x) hs fun _ _ hs => ?_
  refine stM_seq (nodeR hg h14 wf.2.2.2.2.2.2.2.2.2.1 (h11 g x)) (l8 g x) hs fun _ _ hs => ?_
  have h := (h12 g x).trans (tsts_T _ _)
  exact stM_node (nodeR (rs := rT) (outs := []) hg h14 wf.2.2.2.2.2.2.2.2.2.2 h) (l8 g x) hs fun _ _ hs => ⟨rfl, _, hs⟩
end Go.Ex
set_option maxRecDepth 100000
namespace Go.Ex
open Go Go.Am Go.Proofs
theorem body_0 : Body 0 := body_of run14_0 n2_0 n3_0 n4_0 n5_0 n6_0 n7_0 n8_0 n9_0 n10_0 n11_0 n12_0 (fun x => by unfold bl; kernel_rfl) (fun g x => by unfold bl; kernel_rfl) (fun g x => by unfold bl; kernel_rfl) (fun g x => by unfold bl; kernel_rfl) (fun g x => by unfold bl; kernel_rfl)
theorem body_1 : Body 1 := body_of run14_1 n2_1 n3_1 n4_1 n5_1 n6_1 n7_1 n8_1 n9_1 n10_1 n11_1 n12_1 (fun x => by unfold bl; kernel_rfl) (fun g x => by unfold bl; kernel_rfl) (fun g x => by unfold bl; kernel_rfl) (fun g x => by unfold bl; kernel_rfl) (fun g x => by unfold bl; kernel_rfl)
theorem body_2 : Body 2 := body_of run14_2 n2_2 n3_2 n4_2 n5_2 n6_2 n7_2 n8_2 n9_2 n10_2 n11_2 n12_2 (fun x => by unfold bl; kernel_rfl) (fun g x => by unfold bl; kernel_rfl) (fun g x => by unfold bl; kernel_rfl) (fun g x => by unfold bl; kernel_rfl) (fun g x => by unfold bl; kernel_rfl)
theorem body_3 : Body 3 := body_of run14_3 n2_3 n3_3 n4_3 n5_3 n6_3 n7_3 n8_3 n9_3 n10_3 n11_3 n12_3 (fun x => by unfold bl; kernel_rfl) (fun g x => by unfold bl; kernel_rfl) (fun g x => by unfold bl; kernel_rfl) (fun g x => by unfold bl; kernel_rfl) (fun g x => by unfold bl; kernel_rfl)
theorem body_4 : Body 4 := body_of run14_4 n2_4 n3_4 n4_4 n5_4 n6_4 n7_4 n8_4 n9_4 n10_4 n11_4 n12_4 (fun x => by unfold bl; kernel_rfl) (fun g x => by unfold bl; kernel_rfl) (fun g x => by unfold bl; kernel_rfl) (fun g x => by unfold bl; kernel_rfl) (fun g x => by unfold bl; kernel_rfl)
theorem body_5 : Body 5 := body_of run14_5 n2_5 n3_5 n4_5 n5_5 n6_5 n7_5 n8_5 n9_5 n10_5 n11_5 n12_5 (fun x => by unfold bl; kernel_rfl) (fun g x => by unfold bl; kernel_rfl) (fun g x => by unfold bl; kernel_rfl) (fun g x => by unfold bl; kernel_rfl) (fun g x => by unfold bl; kernel_rfl)
theorem body_6 : Body 6 := body_of run14_6 n2_6 n3_6 n4_6 n5_6 n6_6 n7_6 n8_6 n9_6 n10_6 n11_6 n12_6 (fun x => by unfold bl; kernel_rfl) (fun g x => by unfold bl; kernel_rfl) (fun g x => by unfold bl; kernel_rfl) (fun g x => by unfold bl; kernel_rfl) (fun g x => by unfold bl; kernel_rfl)
theorem body_7 : Body 7 := body_of run14_7 n2_7 n3_7 n4_7 n5_7 n6_7 n7_7 n8_7 n9_7 n10_7 n11_7 n12_7 (fun x => by unfold bl; kernel_rfl) (fun g x => by unfold bl; kernel_rfl) (fun g x => by unfold bl; kernel_rfl) (fun g x => by unfold bl; kernel_rfl) (fun g x => by unfold bl; kernel_rfl)
theorem body_8 : Body 8 := body_of run14_8 n2_8 n3_8 n4_8 n5_8 n6_8 n7_8 n8_8 n9_8 n10_8 n11_8 n12_8 (fun x => by unfold bl; kernel_rfl) (fun g x => by unfold bl; kernel_rfl) (fun g x => by unfold bl; kernel_rfl) (fun g x => by unfold bl; kernel_rfl) (fun g x => by unfold bl; kernel_rfl)
theorem body_9 : Body 9 := body_of run14_9 n2_9 n3_9 n4_9 n5_9 n6_9 n7_9 n8_9 n9_9 n10_9 n11_9 n12_9 (fun x => by unfold bl; kernel_rfl) (fun g x => by unfold bl; kernel_rfl) (fun g x => by unfold bl; kernel_rfl) (fun g x => by unfold bl; kernel_rfl) (fun g x => by unfold bl; kernel_rfl)
theorem body_10 : Body 10 := body_of run14_10 n2_10 n3_10 n4_10 n5_10 n6_10 n7_10 n8_10 n9_10 n10_10 n11_10 n12_10 (fun x => by unfold bl; kernel_rfl) (fun g x => by unfold bl; kernel_rfl) (fun g x => by unfold bl; kernel_rfl) (fun g x => by unfold bl; kernel_rfl) (fun g x => by unfold bl; kernel_rfl)
theorem body_11 : Body 11 := body_of run14_11 n2_11 n3_11 n4_11 n5_11 n6_11 n7_11 n8_11 n9_11 n10_11 n11_11 n12_11 (fun x => by unfold bl; kernel_rfl) (fun g x => by unfold bl; kernel_rfl) (fun g x => by unfold bl; kernel_rfl) (fun g x => by unfold bl; kernel_rfl) (fun g x => by unfold bl; kernel_rfl)
theorem body_12 : Body 12 := body_of run14_12 n2_12 n3_12 n4_12 n5_12 n6_12 n7_12 n8_12 n9_12 n10_12 n11_12 n12_12 (fun x => by unfold bl; kernel_rfl) (fun g x => by unfold bl; kernel_rfl) (fun g x => by unfold bl; kernel_rfl) (fun g x => by unfold bl; kernel_rfl) (fun g x => by unfold bl; kernel_rfl)
theorem body_13 : Body 13 := body_of run14_13 n2_13 n3_13 n4_13 n5_13 n6_13 n7_13 n8_13 n9_13 n10_13 n11_13 n12_13 (fun x => by unfold bl; kernel_rfl) (fun g x => by unfold bl; kernel_rfl) (fun g x => by unfold bl; kernel_rfl) (fun g x => by unfold bl; kernel_rfl) (fun g x => by unfold bl; kernel_rfl)
theorem body_14 : Body 14 := body_of run14_14 n2_14 n3_14 n4_14 n5_14 n6_14 n7_14 n8_14 n9_14 n10_14 n11_14 n12_14 (fun x => by unfold bl; kernel_rfl) (fun g x => by unfold bl; kernel_rfl) (fun g x => by unfold bl; kernel_rfl) (fun g x => by unfold bl; kernel_rfl) (fun g x => by unfold bl; kernel_rfl)
theorem body_15 : Body 15 := body_of run14_15 n2_15 n3_15 n4_15 n5_15 n6_15 n7_15 n8_15 n9_15 n10_15 n11_15 n12_15 (fun x => by unfold bl; kernel_rfl) (fun g x => by unfold bl; kernel_rfl) (fun g x => by unfold bl; kernel_rfl) (fun g x => by unfold bl; kernel_rfl) (fun g x => by unfold bl; kernel_rfl)
theorem body_16 : Body 16 := body_of run14_16 n2_16 n3_16 n4_16 n5_16 n6_16 n7_16 n8_16 n9_16 n10_16 n11_16 n12_16 (fun x => by unfold bl; kernel_rfl) (fun g x => by unfold bl; kernel_rfl) (fun g x => by unfold bl; kernel_rfl) (fun g x => by unfold bl; kernel_rfl) (fun g x => by unfold bl; kernel_rfl)
theorem body_17 : Body 17 := body_of run14_17 n2_17 n3_17 n4_17 n5_17 n6_17 n7_17 n8_17 n9_17 n10_17 n11_17 n12_17 (fun x => by unfold bl; kernel_rfl) (fun g x => by unfold bl; kernel_rfl) (fun g x => by unfold bl; kernel_rfl) (fun g x => by unfold bl; kernel_rfl) (fun g x => by unfold bl; kernel_rfl)
theorem body_18 : Body 18 := body_of run14_18 n2_18 n3_18 n4_18 n5_18 n6_18 n7_18 n8_18 n9_18 n10_18 n11_18 n12_18 (fun x => by unfold bl; kernel_rfl) (fun g x => by unfold bl; kernel_rfl) (fun g x => by unfold bl; kernel_rfl) (fun g x => by unfold bl; kernel_rfl) (fun g x => by unfold bl; kernel_rfl)
theorem body_19 : Body 19 := body_of run14_19 n2_19 n3_19 n4_19 n5_19 n6_19 n7_19 n8_19 n9_19 n10_19 n11_19 n12_19 (fun x => by unfold bl; kernel_rfl) (fun g x => by unfold bl; kernel_rfl) (fun g x => by unfold bl; kernel_rfl) (fun g x => by unfold bl; kernel_rfl) (fun g x => by unfold bl; kernel_rfl)
theorem body_20 : Body 20 := body_of run14_20 n2_20 n3_20 n4_20 n5_20 n6_20 n7_20 n8_20 n9_20 n10_20 n11_20 n12_20 (fun x => by unfold bl; kernel_rfl) (fun g x => by unfold bl; kernel_rfl) (fun g x => by unfold bl; kernel_rfl) (fun g x => by unfold bl; kernel_rfl) (fun g x => by unfold bl; kernel_rfl)
theorem body_21 : Body 21 := body_of run14_21 n2_21 n3_21 n4_21 n5_21 n6_21 n7_21 n8_21 n9_21 n10_21 n11_21 n12_21 (fun x => by unfold bl; kernel_rfl) (fun g x => by unfold bl; kernel_rfl) (fun g x => by unfold bl; kernel_rfl) (fun g x => by unfold bl; kernel_rfl) (fun g x => by unfold bl; kernel_rfl)
theorem body_22 : Body 22 := body_of run14_22 n2_22 n3_22 n4_22 n5_22 n6_22 n7_22 n8_22 n9_22 n10_22 n11_22 n12_22 (fun x => by unfold bl; kernel_rfl) (fun g x => by unfold bl; kernel_rfl) (fun g x => by unfold bl; kernel_rfl) (fun g x => by unfold bl; kernel_rfl) (fun g x => by unfold bl; kernel_rfl)
theorem body_23 : Body 23 := body_of run14_23 n2_23 n3_23 n4_23 n5_23 n6_23 n7_23 n8_23 n9_23 n10_23 n11_23 n12_23 (fun x => by unfold bl; kernel_rfl) (fun g x => by unfold bl; kernel_rfl) (fun g x => by unfold bl; kernel_rfl) (fun g x => by unfold bl; kernel_rfl) (fun g x => by unfold bl; kernel_rfl)
theorem body_24 : Body 24 := body_of run14_24 n2_24 n3_24 n4_24 n5_24 n6_24 n7_24 n8_24 n9_24 n10_24 n11_24 n12_24 (fun x => by unfold bl; kernel_rfl) (fun g x => by unfold bl; kernel_rfl) (fun g x => by unfold bl; kernel_rfl) (fun g x => by unfold bl; kernel_rfl) (fun g x => by unfold bl; kernel_rfl)
theorem body_25 : Body 25 := body_of run14_25 n2_25 n3_25 n4_25 n5_25 n6_25 n7_25 n8_25 n9_25 n10_25 n11_25 n12_25 (fun x => by unfold bl; kernel_rfl) (fun g x => by unfold bl; kernel_rfl) (fun g x => by unfold bl; kernel_rfl) (fun g x => by unfold bl; kernel_rfl) (fun g x => by unfold bl; kernel_rfl)
theorem body_26 : Body 26 := body_of run14_26 n2_26 n3_26 n4_26 n5_26 n6_26 n7_26 n8_26 n9_26 n10_26 n11_26 n12_26 (fun x => by unfold bl; kernel_rfl) (fun g x => by unfold bl; kernel_rfl) (fun g x => by unfold bl; kernel_rfl) (fun g x => by unfold bl; kernel_rfl) (fun g x => by unfold bl; kernel_rfl)
theorem body_27 : Body 27 := body_of run14_27 n2_27 n3_27 n4_27 n5_27 n6_27 n7_27 n8_27 n9_27 n10_27 n11_27 n12_27 (fun x => by unfold bl; kernel_rfl) (fun g x => by unfold bl; kernel_rfl) (fun g x => by unfold bl; kernel_rfl) (fun g x => by unfold bl; kernel_rfl) (fun g x => by unfold bl; kernel_rfl)
theorem body_28 : Body 28 := body_of run14_28 n2_28 n3_28 n4_28 n5_28 n6_28 n7_28 n8_28 n9_28 n10_28 n11_28 n12_28 (fun x => by unfold bl; kernel_rfl) (fun g x => by unfold bl; kernel_rfl) (fun g x => by unfold bl; kernel_rfl) (fun g x => by unfold bl; kernel_rfl) (fun g x => by unfold bl; kernel_rfl)
theorem body_29 : Body 29 := body_of run14_29 n2_29 n3_29 n4_29 n5_29 n6_29 n7_29 n8_29 n9_29 n10_29 n11_29 n12_29 (fun x => by unfold bl; kernel_rfl) (fun g x => by unfold bl; kernel_rfl) (fun g x => by unfold bl; kernel_rfl) (fun g x => by unfold bl; kernel_rfl) (fun g x => by unfold bl; kernel_rfl)
theorem body_30 : Body 30 := body_of run14_30 n2_30 n3_30 n4_30 n5_30 n6_30 n7_30 n8_30 n9_30 n10_30 n11_30 n12_30 (fun x => by unfold bl; kernel_rfl) (fun g x => by unfold bl; kernel_rfl) (fun g x => by unfold bl; kernel_rfl) (fun g x => by unfold bl; kernel_rfl) (fun g x => by unfold bl; kernel_rfl)
theorem body_31 : Body 31 := body_of run14_31 n2_31 n3_31 n4_31 n5_31 n6_31 n7_31 n8_31 n9_31 n10_31 n11_31 n12_31 (fun x => by unfold bl; kernel_rfl) (fun g x => by unfold bl; kernel_rfl) (fun g x => by unfold bl; kernel_rfl) (fun g x => by unfold bl; kernel_rfl) (fun g x => by unfold bl; kernel_rfl)
theorem body_32 : Body 32 := body_of run14_32 n2_32 n3_32 n4_32 n5_32 n6_32 n7_32 n8_32 n9_32 n10_32 n11_32 n12_32 (fun x => by unfold bl; kernel_rfl) (fun g x => by unfold bl; kernel_rfl) (fun g x => by unfold bl; kernel_rfl) (fun g x => by unfold bl; kernel_rfl) (fun g x => by unfold bl; kernel_rfl)
theorem body_33 : Body 33 := body_of run14_33 n2_33 n3_33 n4_33 n5_33 n6_33 n7_33 n8_33 n9_33 n10_33 n11_33 n12_33 (fun x => by unfold bl; kernel_rfl) (fun g x => by unfold bl; kernel_rfl) (fun g x => by unfold bl; kernel_rfl) (fun g x => by unfold bl; kernel_rfl) (fun g x => by unfold bl; kernel_rfl)
theorem body_34 : Body 34 := body_of run14_34 n2_34 n3_34 n4_34 n5_34 n6_34 n7_34 n8_34 n9_34 n10_34 n11_34 n12_34 (fun x => by unfold bl; kernel_rfl) (fun g x => by unfold bl; kernel_rfl) (fun g x => by unfold bl; kernel_rfl) (fun g x => by unfold bl; kernel_rfl) (fun g x => by unfold bl; kernel_rfl)
theorem body_35 : Body 35 := body_of run14_35 n2_35 n3_35 n4_35 n5_35 n6_35 n7_35 n8_35 n9_35 n10_35 n11_35 n12_35 (fun x => by unfold bl; kernel_rfl) (fun g x => by unfold bl; kernel_rfl) (fun g x => by unfold bl; kernel_rfl) (fun g x => by unfold bl; kernel_rfl) (fun g x => by unfold bl; kernel_rfl)
theorem body_36 : Body 36 := body_of run14_36 n2_36 n3_36 n4_36 n5_36 n6_36 n7_36 n8_36 n9_36 n10_36 n11_36 n12_36 (fun x => by unfold bl; kernel_rfl) (fun g x => by unfold bl; kernel_rfl) (fun g x => by unfold bl; kernel_rfl) (fun g x => by unfold bl; kernel_rfl) (fun g x => by unfold bl; kernel_rfl)
theorem body_37 : Body 37 := body_of run14_37 n2_37 n3_37 n4_37 n5_37 n6_37 n7_37 n8_37 n9_37 n10_37 n11_37 n12_37 (fun x => by unfold bl; kernel_rfl) (fun g x => by unfold bl; kernel_rfl) (fun g x => by unfold bl; kernel_rfl) (fun g x => by unfold bl; kernel_rfl) (fun g x => by unfold bl; kernel_rfl)
theorem body_38 : Body 38 := body_of run14_38 n2_38 n3_38 n4_38 n5_38 n6_38 n7_38 n8_38 n9_38 n10_38 n11_38 n12_38 (fun x => by unfold bl; kernel_rfl) (fun g x => by unfold bl; kernel_rfl) (fun g x => by unfold bl; kernel_rfl) (fun g x => by unfold bl; kernel_rfl) (fun g x => by unfold bl; kernel_rfl)
theorem body_39 : Body 39 := body_of run14_39 n2_39 n3_39 n4_39 n5_39 n6_39 n7_39 n8_39 n9_39 n10_39 n11_39 n12_39 (fun x => by unfold bl; kernel_rfl) (fun g x => by unfold bl; kernel_rfl) (fun g x => by unfold bl; kernel_rfl) (fun g x => by unfold bl; kernel_rfl) (fun g x => by unfold bl; kernel_rfl)
theorem body_40 : Body 40 := body_of run14_40 n2_40 n3_40 n4_40 n5_40 n6_40 n7_40 n8_40 n9_40 n10_40 n11_40 n12_40 (fun x => by unfold bl; kernel_rfl) (fun g x => by unfold bl; kernel_rfl) (fun g x => by unfold bl; kernel_rfl) (fun g x => by unfold bl; kernel_rfl) (fun g x => by unfold bl; kernel_rfl)
end Go.Ex
set_option maxRecDepth 100000
namespace Go.Ex
open Go Go.Am Go.Proofs Go.RowKit
theorem bodies : ∀ n, n ≤ 40 → Body n
  | 0, _ => body_0
  | 1, _ => body_1
  | 2, _ => body_2
  | 3, _ => body_3
  | 4, _ => body_4
  | 5, _ => body_5
  | 6, _ => body_6
  | 7, _ => body_7
  | 8, _ => body_8
  | 9, _ => body_9
  | 10, _ => body_10
  | 11, _ => body_11
  | 12, _ => body_12
  | 13, _ => body_13
  | 14, _ => body_14
  | 15, _ => body_15
  | 16, _ => body_16
  | 17, _ => body_17
  | 18, _ => body_18
  | 19, _ => body_19
  | 20, _ => body_20
  | 21, _ => body_21
  | 22, _ => body_22
  | 23, _ => body_23
  | 24, _ => body_24
  | 25, _ => body_25
  | 26, _ => body_26
  | 27, _ => body_27
  | 28, _ => body_28
  | 29, _ => body_29
  | 30, _ => body_30
  | 31, _ => body_31
  | 32, _ => body_32
  | 33, _ => body_33
  | 34, _ => body_34
  | 35, _ => body_35
  | 36, _ => body_36
  | 37, _ => body_37
  | 38, _ => body_38
  | 39, _ => body_39
  | 40, _ => body_40
  | n + 41, h => absurd h (by omega)
section
variable (n : Nat) (xs : List AV)
theorem d0 : Rn gW 0 (cL b4) (e2 n xs) [] 3 .normal (e2 n xs) [] 3 := by unfold Rn; kernel_rfl
theorem d1 : Rn gW 0 (k4 1) (e2 n xs) [] 3 .normal (e2 n xs) [] 3000 := by unfold Rn; kernel_rfl
theorem dL (k : C Oc) : xR gW 0 (k4 2) (rL (e2 n xs)) (ph []) 3000 k = ifb (decide ((40 : Int) < Int.ofNat n))
    (xR gW 0 (cL (cR (k4 2))) ((((rL (e2 n xs)).put 17 (.sls n xs)).put 18 (iN n)).put 19 (.raw (.bool (decide ((40 : Int) < Int.ofNat n))))) (ph []) 3000 k)
    (xR gW 0 (cR (cR (k4 2))) ((((rL (e2 n xs)).put 17 (.sls n xs)).put 18 (iN n)).put 19 (.raw (.bool (decide ((40 : Int) < Int.ofNat n))))) (ph []) 3000 k) := by kernel_rfl
theorem long_ok (h : 40 < n) : Rn gW 0 (k4 2) (e2 n xs) [] 3000 .ret rT [] 3000 := by
  unfold Rn
  rw [dL, decide_eq_true (show (40 : Int) < Int.ofNat n from by have : (40 : Int) < (n : Int) := by omega
                                                                exact this)]
  kernel_rfl
end
theorem b4_two : b4 = Code.seq (cL b4) (Code.seq (k4 1) (cRn 2 b4)) := by kernel_rfl
theorem dly_body {n : Nat} {xs : List AV} (hx : ∃ x, xs = dXs n x) {w0 : World} {act : Act} {w : World} (hs : StM 118 w0 (e2 n xs) [] 3 act w) : b4.wp Tryz.prog (Qd w0) act w := by
  rw [b4_two]
  refine stM_seq (nodeR rfl run14_0 wf4.1 (d0 n xs)) rfl hs fun _ _ hs => ?_
  refine stM_seq (nodeR rfl run14_0 wf4.2.1 (d1 n xs)) rfl hs fun _ _ hs => ?_
  by_cases hn : n ≤ 40
  · obtain ⟨x, rfl⟩ := hx
    exact bodies n hn w0 x _ _ hs
  · rw [rest_eq]
    exact wp_seq (stM_node (nodeR rfl run14_0 wf4.2.2.1 (long_ok n xs (by omega))) rfl hs fun _ _ hs => ⟨rfl, _, hs⟩)
theorem dly_calls {n : Nat} {xs : List AV} (hx : ∃ x, xs = dXs n x) {w0 : World} {args : Array Value} (hr : RepL (Gh.start w0) [.sls n xs] args.toList) :
    Calls Tryz.prog 4 args w0 fun e w' => e = .returned (.bool true) ∧ Below w0.heap.size w0 w' := by
  have hp := xpre_start (n := 118) hr (show 1 ≤ 118 by decide) (Sim.start w0)
  have h0 : StM 118 w0 (e2 n xs) [] 3 { tmps := args ++ Array.replicate (118 - args.size) undef, defers := [] } w0 := by
    refine ⟨Gh.start w0, .refl _, fun _ _ => rfl, hp.defers, hp.size, fun i => ?_, sim_part hp.sim fun p y h => by cases h⟩
    rcases rL_get (e2 n xs) i with h | ⟨p, hp', rfl, h2⟩
    · rw [h]; simp only [Rep]
    · rw [h2]
      simp only [e2, List.mem_cons, List.not_mem_nil, or_false] at hp'
      rcases hp' with rfl
      exact hp.regs 0
  refine calls_of_wp (fn := Tryz.f4) (c := b4) Tryz.func4 (by kernel_rfl) (wp_mono (dly_body hx h0) ?_)
  rintro e act' w' ⟨rfl, N, g, h1, h2, h3⟩
  have h4 : Rep g (rg (rL rT) 2) (act'.tmps.getD 2 undef) := h3.regs 2
  have h5 : act'.tmps.getD 2 undef = .bool true := by
    have e : rg (rL rT) 2 = .raw (.bool true) := by kernel_rfl
    rw [e] at h4
    simpa only [Rep] using h4
  refine ⟨h3.defers, _, results_run (us := [.bool true]) ?_, rfl, h3.sim.below h1⟩
  show (([ResultVar.tmp 2] : List ResultVar).mapM (resRun act'.tmps)).run Tryz.prog w' = _
  simp only [List.mapM_cons, List.mapM_nil, resRun, h5, Sem.run_bind, Sem.run_pure, Result.andThen_ok]
theorem dXs_of (l : List Int) : l.map (fun z => AV.raw (.int .i64 z)) = dXs l.length (fun i => l.getD i 0) := by
  unfold dXs ivv
  apply List.ext_getElem
  · simp
  · intro i h1 h2
    have h3 : i < l.length := by simpa using h1
    simp [List.getD_eq_getElem?_getD, List.getElem?_eq_getElem h3]
end Go.Ex
namespace Go.Am
open Go Go.RowKit
section
open Go.WideShapes Go.ChangeShapes
variable {H : Type} {enc : TypeId × Value → H} {P : Program}
theorem law_contract_at (B : Bulk H) {f : FuncId} {fn : Func} {s : ChangeSpec} {ty : Ty} {tb : TypeId} (hts : isTys P ty fn.params.toList = true) (hrow : ∀ t ∈ fn.params.toList, t < P.types.size)
    (hvars : s.vars = []) (hfn : ∀ ds : List (DataW H), ds.length = fn.params.toList.length → s.fn H ds = { results := [.lit (.bool true)], args := ds })
    (hres : fn.resultTypes = #[tb]) (hub : P.underlying tb = some .bool) (hl : laidOutB P = true) (hz : ∀ t e, t < P.types.size → P.underlying t = some (.slice e) → 0 < P.cellsOf e) (hm : mapsRowed P = true)
    (hc : ∀ (y : ty.V) (W : World) (args : Array Value), ty.ok y → RepL (Gh.start W) (ty.args y) args.toList → Calls P f args W fun e W' => e = .returned (.bool true) ∧ Below W.heap.size W W')
    {ap fr ho ag : Bool} (W : World) (base : Nat) (args : Array Value) (ds gs : List (DataW H)) (before : List MemPlace)
    (hval : ∀ (j : Nat) t v, fn.params[j]? = some t → args[j]? = some v → Value.okWide P W .any base t v)
    (hW : DataW.Whole enc P fn.params.toList s.vars ap W args.toList ds gs before) :
    Calls P f args W fun e W' => ∃ v, e = .returned v ∧ s.post enc P fn ap fr ho ag W args v W' := by
  have hW' := hW
  obtain ⟨p, q, hA, hV, rfl, hfz, hnd⟩ := hW
  rw [hvars] at hV
  obtain ⟨rfl, rfl⟩ := trodVars_none hV
  have hlt : ∀ x ∈ p ++ [], x.block < W.heap.size := fun x hx => hW'.lt x hx
  obtain ⟨y, h1, h2, h3⟩ := trod_args B ty _ _ _ _ hts (fun j t v ht hv => hval j t v (by simpa using ht) (by simpa using hv)) hA
  refine (hc y W args h1 h3).mono fun e W' ⟨he, hg⟩ => ?_
  subst he
  obtain ⟨hlen1, hlen2⟩ := trodAll_lens _ _ _ _ hA
  have hfn' := hfn (ds ++ []) (by simpa using hlen2)
  refine ⟨_, rfl, post_kept (pa := p) (pv := []) hW' ?_ ?_ ?_ rfl hg ?_⟩
  · intro b sp hd
    rw [hfn', hres]
    exact trodAll_cons_mk (shut_bool hub _) trodAll_mk0
  · intro sp hsp
    rw [hfn']
    simp only [List.append_nil]
    exact trodAll_stays hl hz hm hg hrow hA (fun x hx => hlt x (by simpa using hx)) fun x hx => hsp x (by simpa using hx)
  · intro sp hsp
    rw [hfn', hvars]
    rfl
  · exact ok_one hres rfl (okWide_bool_mk hub _)
end
end Go.Am
