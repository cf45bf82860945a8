import Derived.Test.YtbciofnejefkiaaTab
import Derived.Test.YtbciofnejefkiaaAmWk
import Derived.Test.YtbciofnejefkiaaAmAuto
set_option linter.unusedSimpArgs false
namespace Go.Proofs.Ytbciofnejefkiaa
open Go Go.Am Go.Proofs
set_option linter.unusedVariables false
set_option maxRecDepth 20000
set_option maxHeartbeats 8000000
structure Zw (p : Prop) : Prop where
  out : p
theorem zc {P : Program} {n : Nat} {K : Exit -> Regs -> AHeap -> Prop} {R : Regs} {H : AHeap} {ops : Array Oper} {rest : List Oper} {ty : TypeId} {d : Tmp} {pos : String} {af : Array Edge} {f : FuncId} [hF : FuncT P f] {args : Array Operand} {ats : Array TypeId} {ys : List AV} {Kc : AV -> AHeap -> Prop} (hw : WL (args.toList.map (am R)) ys) (hc : ACalls P f ys H Kc) (hk : ∀ r H', Kc r H' -> AWL P n ops rest K ((d, r) :: R) H') (hdn : Nat.blt d n = true := by exact rfl) :
    AWL P n ops (⟨some d, .call { callee := .value (.func f), args := args, argTypes := ats }, ty, pos, af, none⟩ :: rest) K R H := ak6 hdn hw hc hk
theorem an {G F : Prop} (k : F) (h : Zw F -> G := by intro k; refine ae rfl (ce (v := .raw _) rfl) ?_; exact k.out) : G := h ⟨k⟩
theorem aq {G F : Prop} (k : F) (h : Zw F -> G := by intro k; (with_reducible refine jb ?_); refine ee ?_; exact k.out) : G := h ⟨k⟩
theorem az {G F : Prop} (k : F) (h : Zw F -> G := by intro k; refine bf ?_; refine ca ?_; exact k.out) : G := h ⟨k⟩
theorem a0 {G F : Prop} (k : F) (h : Zw F -> G := by intro k; refine zg3 rfl rfl rfl ?_; exact k.out) : G := h ⟨k⟩
theorem bb {G F : Prop} (k : F) (h : Zw F -> G := by intro k; (with_reducible refine jb ?_); exact k.out) : G := h ⟨k⟩
theorem bc {G F : Prop} (k : F) (h : Zw F -> G := by intro k; refine ae rfl (gq (v := .raw _) rfl) ?_; (with_reducible refine jb ?_); refine ee ?_; exact k.out) : G := h ⟨k⟩
theorem bj {G F : Prop} (k : F) (h : Zw F -> G := by intro k; (apply ay; · exact ce (v := .raw _) rfl); exact k.out) : G := h ⟨k⟩
theorem bl {G F : Prop} (k : F) (h : Zw F -> G := by intro k; refine ae rfl (ce (v := .ptr _ _) rfl) ?_; refine ae rfl (md rfl) ?_; refine ae rfl (kg rfl) ?_; refine ae rfl (fc rfl aa rfl) ?_; exact k.out) : G := h ⟨k⟩
theorem bn {G F : Prop} (k : F) (h : Zw F -> G := by intro k; refine ae rfl (gq (v := .raw _) rfl) ?_; (with_reducible refine jb ?_); refine ee ?_; refine j7 ?_; exact k.out) : G := h ⟨k⟩
theorem bq {G F : Prop} (k : F) (h : Zw F -> G := by intro k; refine bf ?_; refine bf ?_; refine ca ?_; exact k.out) : G := h ⟨k⟩
theorem br {G F : Prop} (k : F) (h : Zw F -> G := by intro k; refine bf ?_; refine ca ?_; refine ae rfl (wo rfl rfl) ?_; (with_reducible refine jb ?_); refine ee ?_; refine bf ?_; exact k.out) : G := h ⟨k⟩
theorem bu {G F : Prop} (k : F) (h : Zw F -> G := by intro k; refine ae rfl (aad (v := .raw _) rfl rfl) ?_; exact k.out) : G := h ⟨k⟩
theorem bx {G F : Prop} (k : F) (h : Zw F -> G := by intro k; refine zt4 rfl rfl ?_; refine zt4 rfl rfl ?_; refine zt4 rfl rfl ?_; refine zt4 rfl rfl ?_; exact k.out) : G := h ⟨k⟩
theorem bz {G F : Prop} (k : F) (h : Zw F -> G := by intro k; refine bf ?_; refine bf ?_; refine ca ?_; refine ae rfl (ce (v := .raw _) rfl) ?_; exact k.out) : G := h ⟨k⟩
theorem cd {G F : Prop} (k : F) (h : Zw F -> G := by intro k; refine ae rfl (tc (v := .raw _) rfl rfl) ?_; exact k.out) : G := h ⟨k⟩
theorem cg {G F : Prop} (k : F) (h : Zw F -> G := by intro k; refine ax rfl (fun hc => ?_) (fun hc => ?_); exact absurd hc aj; refine bf ?_; refine ca ?_; refine ae rfl (kj rfl rfl) ?_; refine ae rfl (gq (v := .raw _) rfl) ?_; (with_reducible refine jb ?_); refine ee ?_; revert hc; exact k.out) : G := h ⟨k⟩
theorem cj {G F : Prop} (k : F) (h : Zw F -> G := by intro k; refine bf ?_; refine aed dz dz bg ?_; exact k.out) : G := h ⟨k⟩
theorem cm {G F : Prop} (k : F) (h : Zw F -> G := by intro k; refine ae rfl (wo rfl rfl) ?_; (with_reducible refine jb ?_); refine ee ?_; exact k.out) : G := h ⟨k⟩
theorem cp {G F : Prop} (k : F) (h : Zw F -> G := by intro k; refine bf ?_; refine ca ?_; refine ae rfl (gq (v := .raw _) rfl) ?_; (with_reducible refine jb ?_); refine ee ?_; refine j7 ?_; exact k.out) : G := h ⟨k⟩
theorem ct {G F : Prop} (k : F) (h : Zw F -> G := by intro k; refine di ?_; refine ee ?_; refine bf ?_; refine gi ?_; refine bf ?_; refine ca ?_; exact k.out) : G := h ⟨k⟩
theorem cu {G F : Prop} (k : F) (h : Zw F -> G := by intro k; refine ae rfl (ce (v := .ptr _ _) rfl) ?_; exact k.out) : G := h ⟨k⟩
theorem cw {G F : Prop} (k : F) (h : Zw F -> G := by intro k; (apply ay; · exact ce (v := .ptr _ _) rfl); (apply ay; · exact md rfl); (apply ay; · exact kg rfl); (apply ay; · exact fc rfl aa rfl); exact k.out) : G := h ⟨k⟩
theorem cx {G F : Prop} (k : F) (h : Zw F -> G := by intro k; refine zt3 rfl rfl rfl ?_; exact k.out) : G := h ⟨k⟩
theorem cy {G F : Prop} (k : F) (h : Zw F -> G := by intro k; refine di ?_; refine ee ?_; exact k.out) : G := h ⟨k⟩
theorem c8 {G F : Prop} (k : F) (h : Zw F -> G := by intro k; refine ax rfl (fun hc => ?_) (fun hc => ?_); exact absurd hc aj; refine oo ?_; refine jz ?_; refine jz ?_; refine ou ?_; refine ee ?_; revert hc; exact k.out) : G := h ⟨k⟩
theorem c9 {G F : Prop} (k : F) (h : Zw F -> G := by intro k; refine ae rfl (ce (v := .vw _ _ _ _) rfl) ?_; exact k.out) : G := h ⟨k⟩
theorem db {G F : Prop} (k : F) (h : Zw F -> G := by intro k; refine ye ?_; exact k.out) : G := h ⟨k⟩
theorem da {G F : Prop} (k : F) (h : Zw F -> G := by intro k; (apply ay; · exact aad (v := .raw _) rfl rfl); exact k.out) : G := h ⟨k⟩
theorem dd {G F : Prop} (k : F) (h : Zw F -> G := by intro k; (apply ay; · exact ce (v := .ptr _ _) rfl); refine zt3 rfl rfl rfl ?_; (apply ay; · exact md rfl); refine zt3 rfl rfl rfl ?_; (apply ay; · exact kg rfl); refine zt3 rfl rfl rfl ?_; (apply ay; · exact fc rfl aa rfl); refine zt3 rfl rfl rfl ?_; exact k.out) : G := h ⟨k⟩
theorem dg {G F : Prop} (k : F) (h : Zw F -> G := by intro k; refine bf ?_; refine ca ?_; refine ae rfl (ce (v := .ptr _ _) rfl) ?_; exact k.out) : G := h ⟨k⟩
theorem de {G F : Prop} (k : F) (h : Zw F -> G := by intro k; (with_reducible refine uj ?_); refine ee ?_; exact k.out) : G := h ⟨k⟩
theorem dk {G F : Prop} (k : F) (h : Zw F -> G := by intro k; refine ae rfl (gq (v := .raw _) rfl) ?_; (with_reducible refine jb ?_); refine ee ?_; refine bf ?_; refine ca ?_; exact k.out) : G := h ⟨k⟩
theorem dh {G F : Prop} (k : F) (h : Zw F -> G := by intro k; (apply ay; · exact mj rfl); refine zt3 rfl rfl rfl ?_; (apply ay; · exact ls rfl ij); refine zt3 rfl rfl rfl ?_; exact k.out) : G := h ⟨k⟩
theorem dl {G F : Prop} (k : F) (h : Zw F -> G := by intro k; refine xu ?_; refine ee ?_; refine ca ?_; refine ae rfl (my rfl rfl au) ?_; refine ae rfl (ce (v := .raw _) rfl) ?_; (with_reducible refine jb ?_); refine ee ?_; exact k.out) : G := h ⟨k⟩
theorem dp {G F : Prop} (k : F) (h : Zw F -> G := by intro k; refine zg4 rfl rfl rfl ?_; refine zg4 rfl rfl rfl ?_; refine zg4 rfl rfl rfl ?_; refine zg4 rfl rfl rfl ?_; exact k.out) : G := h ⟨k⟩
theorem dm {G F : Prop} (k : F) (h : Zw F -> G := by intro k; (apply ay; · exact mj rfl); (apply ay; · exact ls rfl ij); exact k.out) : G := h ⟨k⟩
theorem dq {G F : Prop} (k : F) (h : Zw F -> G := by intro k; refine ae rfl (gq (v := .raw _) rfl) ?_; exact k.out) : G := h ⟨k⟩
theorem dv {G F : Prop} (k : F) (h : Zw F -> G := by intro k; (with_reducible refine jb ?_); refine ee ?_; refine j7 ?_; exact k.out) : G := h ⟨k⟩
theorem dw {G F : Prop} (k : F) (h : Zw F -> G := by intro k; refine ae rfl (aiw rfl rfl) ?_; exact k.out) : G := h ⟨k⟩
theorem dt {G F : Prop} (k : F) (h : Zw F -> G := by intro k; refine ae rfl (ce (v := .sls _ _) rfl) ?_; exact k.out) : G := h ⟨k⟩
theorem ea {G F : Prop} (k : F) (h : Zw F -> G := by intro k; refine ae rfl (pn rfl) ?_; exact k.out) : G := h ⟨k⟩
theorem dx {G F : Prop} (k : F) (h : Zw F -> G := by intro k; (apply DC.awn_s; · (intros; exact ce (v := .ptr _ _) rfl)); exact k.out) : G := h ⟨k⟩
theorem eb {G F : Prop} (k : F) (h : Zw F -> G := by intro k; (apply ay; · exact ce (v := .raw _) rfl); refine zt3 rfl rfl rfl ?_; exact k.out) : G := h ⟨k⟩
theorem ei {G F : Prop} (k : F) (h : Zw F -> G := by intro k; refine ae rfl (ce (v := .bys _) rfl) ?_; exact k.out) : G := h ⟨k⟩
theorem ep {G F : Prop} (k : F) (h : Zw F -> G := by intro k; refine ae rfl (ce (v := .raw _) rfl) ?_; refine zg3 rfl rfl rfl ?_; exact k.out) : G := h ⟨k⟩
theorem eu {G F : Prop} (k : F) (h : Zw F -> G := by intro k; refine ae rfl (vb rfl) ?_; exact k.out) : G := h ⟨k⟩
theorem ey {G F : Prop} (k : F) (h : Zw F -> G := by intro k; refine ae rfl (ce (v := .sls _ _) rfl) ?_; refine ae rfl (vb rfl) ?_; exact k.out) : G := h ⟨k⟩
theorem eo {G F : Prop} (k : F) (h : Zw F -> G := by intro k; refine ae rfl (kg rfl) ?_; refine zg3 rfl rfl rfl ?_; refine ae rfl (fc rfl aa rfl) ?_; refine zg3 rfl rfl rfl ?_; exact k.out) : G := h ⟨k⟩
theorem ez {G F : Prop} (k : F) (h : Zw F -> G := by intro k; refine ae rfl (mj rfl) ?_; refine ae rfl (ls rfl ij) ?_; exact k.out) : G := h ⟨k⟩
theorem fh {G F : Prop} (k : F) (h : Zw F -> G := by intro k; refine ae rfl (ml rfl rfl) ?_; exact k.out) : G := h ⟨k⟩
theorem fb {G F : Prop} (k : F) (h : Zw F -> G := by intro k; refine zg4 rfl rfl rfl ?_; exact k.out) : G := h ⟨k⟩
theorem e8 {G F : Prop} (k : F) (h : Zw F -> G := by intro k; (apply DC.awn_s; · (intro H1 hPsi; (try dsimp only at hPsi); (try (obtain ⟨hPsi, hPsi2⟩ := hPsi)); exact fc rfl aa rfl)); exact k.out) : G := h ⟨k⟩
theorem fa {G F : Prop} (k : F) (h : Zw F -> G := by intro k; (apply DC.awn_s; · (intros; exact ce (v := .raw _) rfl)); exact k.out) : G := h ⟨k⟩
theorem fm {G F : Prop} (k : F) (h : Zw F -> G := by intro k; (with_reducible refine jb ?_); refine ee ?_; refine mf rfl ?_; exact k.out) : G := h ⟨k⟩
theorem fi {G F : Prop} (k : F) (h : Zw F -> G := by intro k; refine ye ?_; refine aae ?_; refine ye ?_; exact k.out) : G := h ⟨k⟩
theorem ft {G F : Prop} (k : F) (h : Zw F -> G := by intro k; refine xu ?_; refine ee ?_; exact k.out) : G := h ⟨k⟩
theorem fv {G F : Prop} (k : F) (h : Zw F -> G := by intro k; refine ca ?_; refine ae rfl (ce (v := .ptr _ _) rfl) ?_; exact k.out) : G := h ⟨k⟩
theorem fq {G F : Prop} (k : F) (h : Zw F -> G := by intro k; refine bf ?_; refine bf ?_; refine ca ?_; refine ae rfl (ce (v := .raw _) rfl) ?_; refine ae rfl (ce (v := .ptr _ _) rfl) ?_; refine ae rfl (md rfl) ?_; refine ae rfl (kg rfl) ?_; refine ae rfl (fc rfl aa rfl) ?_; exact k.out) : G := h ⟨k⟩
theorem fx {G F : Prop} (k : F) (h : Zw F -> G := by intro k; refine xu ?_; refine ee ?_; refine ca ?_; refine ae rfl (ce (v := .raw _) rfl) ?_; refine ae rfl (my rfl rfl au) ?_; refine ae rfl (gq (v := .raw _) rfl) ?_; (with_reducible refine jb ?_); refine ee ?_; exact k.out) : G := h ⟨k⟩
theorem f0 {G F : Prop} (k : F) (h : Zw F -> G := by intro k; refine bf ?_; refine ca ?_; refine ae rfl (gq (v := .raw _) rfl) ?_; (with_reducible refine jb ?_); refine ee ?_; refine bf ?_; refine ca ?_; exact k.out) : G := h ⟨k⟩
theorem gj {G F : Prop} (k : F) (h : Zw F -> G := by intro k; refine ee ?_; exact k.out) : G := h ⟨k⟩
theorem gh {G F : Prop} (k : F) (h : Zw F -> G := by intro k; refine ax rfl (fun hc => ?_) (fun hc => ?_); exact absurd hc aj; refine di ?_; refine ee ?_; revert hc; exact k.out) : G := h ⟨k⟩
theorem fy {G F : Prop} (k : F) (h : Zw F -> G := by intro k; refine bf ?_; refine bf ?_; refine ca ?_; refine ae rfl (mj rfl) ?_; refine ae rfl (ls rfl ij) ?_; (with_reducible refine jb ?_); refine ee ?_; refine gi ?_; refine bf ?_; refine ca ?_; exact k.out) : G := h ⟨k⟩
theorem gn {G F : Prop} (k : F) (h : Zw F -> G := by intro k; refine bf ?_; refine ca ?_; refine ae rfl (ce (v := .raw _) rfl) ?_; exact k.out) : G := h ⟨k⟩
theorem gp {G F : Prop} (k : F) (h : Zw F -> G := by intro k; refine zg4 rfl rfl rfl ?_; refine zg4 rfl rfl rfl ?_; exact k.out) : G := h ⟨k⟩
theorem gv {G F : Prop} (k : F) (h : Zw F -> G := by intro k; refine zs6 rfl qe aa ab9 abt ?_; exact k.out) : G := h ⟨k⟩
theorem gr {G F : Prop} (k : F) (h : Zw F -> G := by intro k; refine ae rfl (ce (v := .raw _) rfl) ?_; refine ae rfl (vv rfl rfl au) ?_; exact k.out) : G := h ⟨k⟩
theorem gw {G F : Prop} (k : F) (h : Zw F -> G := by intro k; refine ae rfl (kj rfl rfl) ?_; refine ae rfl (gq (v := .raw _) rfl) ?_; (with_reducible refine jb ?_); refine ee ?_; exact k.out) : G := h ⟨k⟩
theorem gy {G F : Prop} (k : F) (h : Zw F -> G := by intro k; (with_reducible refine jb ?_); refine ee ?_; refine ajz rfl ?_; exact k.out) : G := h ⟨k⟩
theorem gx {G F : Prop} (k : F) (h : Zw F -> G := by intro k; refine ae rfl (ls rfl ij) ?_; exact k.out) : G := h ⟨k⟩
theorem il {G F : Prop} (k : F) (h : Zw F -> G := by intro k; (with_reducible refine jb ?_); refine ee ?_; refine bf ?_; refine ca ?_; exact k.out) : G := h ⟨k⟩
theorem ig {G F : Prop} (k : F) (h : Zw F -> G := by intro k; refine ae rfl (ce (v := .raw _) rfl) ?_; (with_reducible refine jb ?_); refine ee ?_; refine gi ?_; exact k.out) : G := h ⟨k⟩
theorem ic {G F : Prop} (k : F) (h : Zw F -> G := by intro k; refine ae rfl (ack rfl rfl au) ?_; exact k.out) : G := h ⟨k⟩
theorem gz {G F : Prop} (k : F) (h : Zw F -> G := by intro k; (apply jl; · (intro H1; exact ce (v := .ptr _ _) rfl)); exact k.out) : G := h ⟨k⟩
theorem ia {G F : Prop} (k : F) (h : Zw F -> G := by intro k; refine ajz rfl ?_; exact k.out) : G := h ⟨k⟩
theorem ie {G F : Prop} (k : F) (h : Zw F -> G := by intro k; (apply ay; · exact tc (v := .raw _) rfl rfl); (apply ay; · exact ce (v := .raw _) rfl); exact k.out) : G := h ⟨k⟩
theorem ix {G F : Prop} (k : F) (h : Zw F -> G := by intro k; refine ae rfl (gq (v := .vw _ _ _ _) rfl) ?_; exact k.out) : G := h ⟨k⟩
theorem iw {G F : Prop} (k : F) (h : Zw F -> G := by intro k; refine ae rfl (md rfl) ?_; refine ae rfl (kg rfl) ?_; exact k.out) : G := h ⟨k⟩
theorem iq {G F : Prop} (k : F) (h : Zw F -> G := by intro k; refine zs5 rfl qe rfl ab9 abt ?_; exact k.out) : G := h ⟨k⟩
theorem iu {G F : Prop} (k : F) (h : Zw F -> G := by intro k; refine ae rfl (kg rfl) ?_; exact k.out) : G := h ⟨k⟩
theorem ip {G F : Prop} (k : F) (h : Zw F -> G := by intro k; refine ae rfl (rh rfl rfl rfl (by decide)) ?_; exact k.out) : G := h ⟨k⟩
theorem im {G F : Prop} (k : F) (h : Zw F -> G := by intro k; (apply DC.awn_s; · (intros; exact md rfl)); (apply DC.awn_s; · (intros; exact kg rfl)); exact k.out) : G := h ⟨k⟩
theorem iz {G F : Prop} (k : F) (h : Zw F -> G := by intro k; refine ae rfl (acm rfl) ?_; exact k.out) : G := h ⟨k⟩
theorem i5 {G F : Prop} (k : F) (h : Zw F -> G := by intro k; refine ae rfl (pw rfl aa rfl rfl (by first | decide | exact Nat.le_of_ble_eq_true rfl)) ?_; refine zs2 rfl rfl aa qu qu qu ?_; exact k.out) : G := h ⟨k⟩
theorem i0 {G F : Prop} (k : F) (h : Zw F -> G := by intro k; (apply ay; · exact ce (v := .ptr _ _) rfl); exact k.out) : G := h ⟨k⟩
theorem jc {G F : Prop} (k : F) (h : Zw F -> G := by intro k; refine zs6 rfl qe aa ab9 abt ?_; (with_reducible refine jb ?_); exact k.out) : G := h ⟨k⟩
theorem jd {G F : Prop} (k : F) (h : Zw F -> G := by intro k; (apply jl; · (intro H1; exact md rfl)); (apply jl; · (intro H1; exact kg rfl)); exact k.out) : G := h ⟨k⟩
theorem i9 {G F : Prop} (k : F) (h : Zw F -> G := by intro k; refine ae rfl (ce (v := .raw _) rfl) ?_; refine zg3 rfl rfl rfl ?_; refine ae rfl (ce (v := .ptr _ _) rfl) ?_; refine zg3 rfl rfl rfl ?_; exact k.out) : G := h ⟨k⟩
theorem ja {G F : Prop} (k : F) (h : Zw F -> G := by intro k; refine ae rfl (ml rfl rfl) ?_; refine ae rfl (gq (v := .raw _) rfl) ?_; (with_reducible refine jb ?_); refine ee ?_; exact k.out) : G := h ⟨k⟩
theorem jk {G F : Prop} (k : F) (h : Zw F -> G := by intro k; refine ae rfl (wq rfl rfl) ?_; exact k.out) : G := h ⟨k⟩
theorem jj {G F : Prop} (k : F) (h : Zw F -> G := by intro k; refine ae rfl (ce (v := .tup _) rfl) ?_; refine ae rfl (kw rfl rfl) ?_; refine ae rfl (kw rfl rfl) ?_; exact k.out) : G := h ⟨k⟩
theorem jh {G F : Prop} (k : F) (h : Zw F -> G := by intro k; (apply ay; · exact tc (v := .raw _) rfl rfl); (with_reducible refine uj ?_); refine ee ?_; exact k.out) : G := h ⟨k⟩
theorem je {G F : Prop} (k : F) (h : Zw F -> G := by intro k; refine zt4 rfl rfl ?_; refine zt4 rfl rfl ?_; exact k.out) : G := h ⟨k⟩
theorem jg {G F : Prop} (k : F) (h : Zw F -> G := by intro k; refine ae rfl (fc rfl aa ij) ?_; exact k.out) : G := h ⟨k⟩
theorem jn {G F : Prop} (k : F) (h : Zw F -> G := by intro k; refine ae rfl (abv (by ((repeat' (first | exact nq | apply np)); all_goals (first | exact (rfl : _ = AV.raw _) | exact (rfl : _ = AV.bys _) | exact (rfl : _ = AV.vw _ _ _ _) | exact (rfl : _ = AV.ptr _ _) | exact (rfl : _ = AV.str _) | exact (rfl : _ = AV.sls _ _) | exact (rfl : _ = AV.tup _) | exact (rfl : _ = AV.agg _) | exact (rfl : _ = AV.pce _ _) | exact (rfl : _ = AV.emp) | exact (rfl : _ = AV.bysx _) | exact (rfl : _ = AV.slsx _ _) | exact (rfl : _ = AV.mp _) | exact (rfl : _ = AV.fnc _ _ _) | exact (rfl : _ = AV.pby _ _) | exact (rfl : _ = AV.ifc _ _)))) (by rfl)) ?_; exact k.out) : G := h ⟨k⟩
theorem jo {G F : Prop} (k : F) (h : Zw F -> G := by intro k; refine zs7 rfl rfl rfl (by assumption) rfl rfl rfl ?_; exact k.out) : G := h ⟨k⟩
theorem jm {G F : Prop} (k : F) (h : Zw F -> G := by intro k; refine ax rfl (fun hc => ?_) (fun hc => ?_); exact absurd hc aj; revert hc; exact k.out) : G := h ⟨k⟩
theorem js {G F : Prop} (k : F) (h : Zw F -> G := by intro k; refine di ?_; refine ee ?_; refine bf ?_; refine gi ?_; exact k.out) : G := h ⟨k⟩
theorem jv {G F : Prop} (k : F) (h : Zw F -> G := by intro k; refine ae rfl (tc (v := .raw _) rfl rfl) ?_; refine ae rfl (ce (v := .raw _) rfl) ?_; exact k.out) : G := h ⟨k⟩
theorem jr {G F : Prop} (k : F) (h : Zw F -> G := by intro k; (apply DC.awn_s; · (intros; exact kg rfl)); exact k.out) : G := h ⟨k⟩
theorem ju {G F : Prop} (k : F) (h : Zw F -> G := by intro k; (apply ay; · exact pn rfl); exact k.out) : G := h ⟨k⟩
theorem jw {G F : Prop} (k : F) (h : Zw F -> G := by intro k; refine zg5 rfl rfl rfl ?_; exact k.out) : G := h ⟨k⟩
theorem jx {G F : Prop} (k : F) (h : Zw F -> G := by intro k; refine zs1 rfl rfl rfl rfl qu qu ?_; exact k.out) : G := h ⟨k⟩
theorem j4 {G F : Prop} (k : F) (h : Zw F -> G := by intro k; refine ae rfl (md rfl) ?_; refine zg3 rfl rfl rfl ?_; exact k.out) : G := h ⟨k⟩
theorem j5 {G F : Prop} (k : F) (h : Zw F -> G := by intro k; refine aed dz dz bg ?_; exact k.out) : G := h ⟨k⟩
theorem j9 {G F : Prop} (k : F) (h : Zw F -> G := by intro k; refine aae ?_; refine ye ?_; exact k.out) : G := h ⟨k⟩
theorem j6 {G F : Prop} (k : F) (h : Zw F -> G := by intro k; refine mf rfl ?_; refine di ?_; exact k.out) : G := h ⟨k⟩
theorem kq {G F : Prop} (k : F) (h : Zw F -> G := by intro k; refine ae rfl (zg (by ((repeat' (first | exact nq | apply np)); all_goals (first | exact (rfl : _ = AV.raw _) | exact (rfl : _ = AV.bys _) | exact (rfl : _ = AV.vw _ _ _ _) | exact (rfl : _ = AV.ptr _ _) | exact (rfl : _ = AV.str _) | exact (rfl : _ = AV.sls _ _) | exact (rfl : _ = AV.tup _) | exact (rfl : _ = AV.agg _) | exact (rfl : _ = AV.pce _ _) | exact (rfl : _ = AV.emp) | exact (rfl : _ = AV.bysx _) | exact (rfl : _ = AV.slsx _ _) | exact (rfl : _ = AV.mp _) | exact (rfl : _ = AV.fnc _ _ _) | exact (rfl : _ = AV.pby _ _) | exact (rfl : _ = AV.ifc _ _)))) (by rfl) (by rfl) (by rfl) (by ((repeat' (first | exact nq | apply np)); all_goals (first | exact (rfl : _ = AV.raw _) | exact (rfl : _ = AV.bys _) | exact (rfl : _ = AV.vw _ _ _ _) | exact (rfl : _ = AV.ptr _ _) | exact (rfl : _ = AV.str _) | exact (rfl : _ = AV.sls _ _) | exact (rfl : _ = AV.tup _) | exact (rfl : _ = AV.agg _) | exact (rfl : _ = AV.pce _ _) | exact (rfl : _ = AV.emp) | exact (rfl : _ = AV.bysx _) | exact (rfl : _ = AV.slsx _ _) | exact (rfl : _ = AV.mp _) | exact (rfl : _ = AV.fnc _ _ _) | exact (rfl : _ = AV.pby _ _) | exact (rfl : _ = AV.ifc _ _)))) (by decide)) ?_; exact k.out) : G := h ⟨k⟩
theorem ko {G F : Prop} (k : F) (h : Zw F -> G := by intro k; refine ae rfl (mj rfl) ?_; exact k.out) : G := h ⟨k⟩
theorem kn {G F : Prop} (k : F) (h : Zw F -> G := by intro k; refine zs2 rfl rfl aa qu qu qu ?_; exact k.out) : G := h ⟨k⟩
theorem ku {G F : Prop} (k : F) (h : Zw F -> G := by intro k; refine ae rfl (gq (v := .ptr _ _) rfl) ?_; exact k.out) : G := h ⟨k⟩
theorem kv {G F : Prop} (k : F) (h : Zw F -> G := by intro k; refine ae rfl (gq (v := .bys _) rfl) ?_; exact k.out) : G := h ⟨k⟩
theorem kx {G F : Prop} (k : F) (h : Zw F -> G := by intro k; refine ax rfl (fun hc => ?_) (fun hc => ?_); exact absurd hc aj; refine bf ?_; refine ca ?_; revert hc; exact k.out) : G := h ⟨k⟩
theorem ln {G F : Prop} (k : F) (h : Zw F -> G := by intro k; refine ae rfl (aji rfl rfl) ?_; exact k.out) : G := h ⟨k⟩
theorem k7 {G F : Prop} (k : F) (h : Zw F -> G := by intro k; (apply ay; · exact ce (v := .sls _ _) rfl); exact k.out) : G := h ⟨k⟩
theorem lk {G F : Prop} (k : F) (h : Zw F -> G := by intro k; (apply jl; · (intro H1; exact mj rfl)); exact k.out) : G := h ⟨k⟩
theorem lh {G F : Prop} (k : F) (h : Zw F -> G := by intro k; (apply jl; · (intro H1; exact ls rfl ij)); exact k.out) : G := h ⟨k⟩
theorem ma {G F : Prop} (k : F) (h : Zw F -> G := by intro k; refine ae rfl (fc rfl aa rfl) ?_; exact k.out) : G := h ⟨k⟩
theorem l0 {G F : Prop} (k : F) (h : Zw F -> G := by intro k; (apply ay; · exact ack rfl rfl au); exact k.out) : G := h ⟨k⟩
theorem lx {G F : Prop} (k : F) (h : Zw F -> G := by intro k; refine ae rfl (ce (v := .ptr _ _) rfl) ?_; refine zg3 rfl rfl rfl ?_; exact k.out) : G := h ⟨k⟩
theorem l9 {G F : Prop} (k : F) (h : Zw F -> G := by intro k; (apply DC.awn_s; · (intros; exact aad (v := .raw _) rfl rfl)); exact k.out) : G := h ⟨k⟩
theorem mh {G F : Prop} (k : F) (h : Zw F -> G := by intro k; refine ae rfl (anq rfl) ?_; exact k.out) : G := h ⟨k⟩
theorem mo {G F : Prop} (k : F) (h : Zw F -> G := by intro k; (apply ay; · exact wo rfl rfl); exact k.out) : G := h ⟨k⟩
theorem mz {G F : Prop} (k : F) (h : Zw F -> G := by intro k; refine ae rfl (wo rfl rfl) ?_; exact k.out) : G := h ⟨k⟩
theorem nh {G F : Prop} (k : F) (h : Zw F -> G := by intro k; (apply ay; · exact vb rfl); exact k.out) : G := h ⟨k⟩
theorem mu {G F : Prop} (k : F) (h : Zw F -> G := by intro k; (apply ay; · exact vv rfl rfl au); exact k.out) : G := h ⟨k⟩
theorem nk {G F : Prop} (k : F) (h : Zw F -> G := by intro k; refine ae rfl (rh rfl (by assumption) (by rfl) (by decide)) ?_; exact k.out) : G := h ⟨k⟩
theorem nv {G F : Prop} (k : F) (h : Zw F -> G := by intro k; (apply ay; · exact aiw rfl rfl); exact k.out) : G := h ⟨k⟩
theorem oa {G F : Prop} (k : F) (h : Zw F -> G := by intro k; (apply ay; · exact fc rfl aa ij); exact k.out) : G := h ⟨k⟩
theorem pi {G F : Prop} (k : F) (h : Zw F -> G := by intro k; refine ae rfl (pw rfl aa rfl rfl (by first | decide | exact Nat.le_of_ble_eq_true rfl)) ?_; exact k.out) : G := h ⟨k⟩
theorem oz {G F : Prop} (k : F) (h : Zw F -> G := by intro k; refine ae rfl (ce (v := .raw _) rfl) ?_; (with_reducible refine jb ?_); refine ee ?_; exact k.out) : G := h ⟨k⟩
theorem oq {G F : Prop} (k : F) (h : Zw F -> G := by intro k; (apply ay; · exact vz rfl ji ji au au); exact k.out) : G := h ⟨k⟩
theorem oy {G F : Prop} (k : F) (h : Zw F -> G := by intro k; (apply DC.awn_s; · (intros; exact tc (v := .raw _) rfl rfl)); exact k.out) : G := h ⟨k⟩
theorem pt {G F : Prop} (k : F) (h : Zw F -> G := by intro k; refine gi ?_; refine bf ?_; refine ca ?_; exact k.out) : G := h ⟨k⟩
theorem qf {G F : Prop} (k : F) (h : Zw F -> G := by intro k; refine ae rfl (apl rfl rfl ii ii) ?_; exact k.out) : G := h ⟨k⟩
theorem px {G F : Prop} (k : F) (h : Zw F -> G := by intro k; refine ae rfl (ce (v := .raw _) rfl) ?_; refine ae rfl (my rfl rfl au) ?_; exact k.out) : G := h ⟨k⟩
theorem pk {G F : Prop} (k : F) (h : Zw F -> G := by intro k; refine ae rfl (vv rfl rfl au) ?_; exact k.out) : G := h ⟨k⟩
theorem po {G F : Prop} (k : F) (h : Zw F -> G := by intro k; (apply ay; · exact kg rfl); refine zt3 rfl rfl rfl ?_; (apply ay; · exact fc rfl aa rfl); refine zt3 rfl rfl rfl ?_; exact k.out) : G := h ⟨k⟩
theorem qa {G F : Prop} (k : F) (h : Zw F -> G := by intro k; (apply DC.awn_s; · (intros; exact gq (v := .raw _) rfl)); exact k.out) : G := h ⟨k⟩
theorem pj {G F : Prop} (k : F) (h : Zw F -> G := by intro k; (apply ay; · exact rh rfl rfl rfl (by decide)); exact k.out) : G := h ⟨k⟩
theorem pr {G F : Prop} (k : F) (h : Zw F -> G := by intro k; (apply ay; · exact gq (v := .raw _) rfl); exact k.out) : G := h ⟨k⟩
theorem qg {G F : Prop} (k : F) (h : Zw F -> G := by intro k; refine ae rfl (abh rfl ji ji au au rfl) ?_; exact k.out) : G := h ⟨k⟩
theorem qq {G F : Prop} (k : F) (h : Zw F -> G := by intro k; (apply ay; · exact tc (v := .raw _) rfl rfl); exact k.out) : G := h ⟨k⟩
theorem qw {G F : Prop} (k : F) (h : Zw F -> G := by intro k; refine oo ?_; refine jz ?_; refine jz ?_; refine ou ?_; exact k.out) : G := h ⟨k⟩
theorem rj {G F : Prop} (k : F) (h : Zw F -> G := by intro k; refine ae rfl (ce (v := .fnc _ _ _) rfl) ?_; exact k.out) : G := h ⟨k⟩
theorem r9 {G F : Prop} (k : F) (h : Zw F -> G := by intro k; (apply jl; · (intro H1; exact ce (v := .raw _) rfl)); exact k.out) : G := h ⟨k⟩
theorem re {G F : Prop} (k : F) (h : Zw F -> G := by intro k; (apply jl; · (intro H1; exact zg (by ((repeat' (first | exact nq | apply np)); all_goals (first | exact (rfl : _ = AV.raw _) | exact (rfl : _ = AV.bys _) | exact (rfl : _ = AV.vw _ _ _ _) | exact (rfl : _ = AV.ptr _ _) | exact (rfl : _ = AV.str _) | exact (rfl : _ = AV.sls _ _) | exact (rfl : _ = AV.tup _) | exact (rfl : _ = AV.agg _) | exact (rfl : _ = AV.pce _ _) | exact (rfl : _ = AV.emp) | exact (rfl : _ = AV.bysx _) | exact (rfl : _ = AV.slsx _ _) | exact (rfl : _ = AV.mp _) | exact (rfl : _ = AV.fnc _ _ _) | exact (rfl : _ = AV.pby _ _) | exact (rfl : _ = AV.ifc _ _)))) (by rfl) (by rfl) (by rfl) (by ((repeat' (first | exact nq | apply np)); all_goals (first | exact (rfl : _ = AV.raw _) | exact (rfl : _ = AV.bys _) | exact (rfl : _ = AV.vw _ _ _ _) | exact (rfl : _ = AV.ptr _ _) | exact (rfl : _ = AV.str _) | exact (rfl : _ = AV.sls _ _) | exact (rfl : _ = AV.tup _) | exact (rfl : _ = AV.agg _) | exact (rfl : _ = AV.pce _ _) | exact (rfl : _ = AV.emp) | exact (rfl : _ = AV.bysx _) | exact (rfl : _ = AV.slsx _ _) | exact (rfl : _ = AV.mp _) | exact (rfl : _ = AV.fnc _ _ _) | exact (rfl : _ = AV.pby _ _) | exact (rfl : _ = AV.ifc _ _)))) (by decide))); exact k.out) : G := h ⟨k⟩
theorem ro {G F : Prop} (k : F) (h : Zw F -> G := by intro k; refine ae rfl (xg rfl rfl aa (by first | assumption | rfl) (by first | assumption | rfl)) ?_; exact k.out) : G := h ⟨k⟩
theorem sa {G F : Prop} (k : F) (h : Zw F -> G := by intro k; (apply ay; · exact ce (v := .vw _ _ _ _) rfl); exact k.out) : G := h ⟨k⟩
theorem q0 {G F : Prop} (k : F) (h : Zw F -> G := by intro k; (apply jl; · (intro H1; exact vv rfl rfl au)); exact k.out) : G := h ⟨k⟩
theorem sg {G F : Prop} (k : F) (h : Zw F -> G := by intro k; refine ae rfl (pw rfl aa (by assumption) (by rfl) au) ?_; exact k.out) : G := h ⟨k⟩
theorem se {G F : Prop} (k : F) (h : Zw F -> G := by intro k; (apply ay; · exact abv (by ((repeat' (first | exact nq | apply np)); all_goals (first | exact (rfl : _ = AV.raw _) | exact (rfl : _ = AV.bys _) | exact (rfl : _ = AV.vw _ _ _ _) | exact (rfl : _ = AV.ptr _ _) | exact (rfl : _ = AV.str _) | exact (rfl : _ = AV.sls _ _) | exact (rfl : _ = AV.tup _) | exact (rfl : _ = AV.agg _) | exact (rfl : _ = AV.pce _ _) | exact (rfl : _ = AV.emp) | exact (rfl : _ = AV.bysx _) | exact (rfl : _ = AV.slsx _ _) | exact (rfl : _ = AV.mp _) | exact (rfl : _ = AV.fnc _ _ _) | exact (rfl : _ = AV.pby _ _) | exact (rfl : _ = AV.ifc _ _)))) (by rfl)); exact k.out) : G := h ⟨k⟩
theorem rm {G F : Prop} (k : F) (h : Zw F -> G := by intro k; (apply DC.awn_s; · (intros; exact mt rfl rfl)); exact k.out) : G := h ⟨k⟩
theorem qy {G F : Prop} (k : F) (h : Zw F -> G := by intro k; (apply DC.awn_s; · (intros; exact vv rfl rfl au)); exact k.out) : G := h ⟨k⟩
theorem s5 {G F : Prop} (k : F) (h : Zw F -> G := by intro k; refine oo ?_; refine jz ?_; refine jz ?_; refine ou ?_; refine ee ?_; exact k.out) : G := h ⟨k⟩
theorem ue {G F : Prop} (k : F) (h : Zw F -> G := by intro k; refine ae rfl (ce (v := .ptr _ _) rfl) ?_; refine ae rfl (md rfl) ?_; refine ae rfl (kg rfl) ?_; exact k.out) : G := h ⟨k⟩
theorem ul {G F : Prop} (k : F) (h : Zw F -> G := by intro k; refine xu ?_; refine ee ?_; refine ca ?_; exact k.out) : G := h ⟨k⟩
theorem sw {G F : Prop} (k : F) (h : Zw F -> G := by intro k; refine bf ?_; refine bf ?_; refine ca ?_; refine ae rfl (mj rfl) ?_; refine ae rfl (ls rfl ij) ?_; exact k.out) : G := h ⟨k⟩
theorem sx {G F : Prop} (k : F) (h : Zw F -> G := by intro k; (apply ay; · exact pw rfl aa rfl rfl (by first | decide | exact Nat.le_of_ble_eq_true rfl)); exact k.out) : G := h ⟨k⟩
theorem th {G F : Prop} (k : F) (h : Zw F -> G := by intro k; (apply DC.awn_s; · (intro H1 hPsi; (try dsimp only at hPsi); (try (obtain ⟨hPsi, hPsi2⟩ := hPsi)); exact pw rfl aa rfl rfl (by first | decide | exact Nat.le_of_ble_eq_true rfl))); exact k.out) : G := h ⟨k⟩
theorem uh {G F : Prop} (k : F) (h : Zw F -> G := by intro k; (apply DC.awn_s; · (intros; exact ls rfl ij)); exact k.out) : G := h ⟨k⟩
theorem vq {G F : Prop} (k : F) (h : Zw F -> G := by intro k; (apply ay; · exact kg rfl); (apply ay; · exact fc rfl aa rfl); exact k.out) : G := h ⟨k⟩
theorem ac8 {G F : Prop} (k : F) (h : Zw F -> G := by intro k; (apply DC.awn_s; · (intros; exact abv (by ((repeat' (first | exact nq | apply np)); all_goals (first | exact (rfl : _ = AV.raw _) | exact (rfl : _ = AV.bys _) | exact (rfl : _ = AV.vw _ _ _ _) | exact (rfl : _ = AV.ptr _ _) | exact (rfl : _ = AV.str _) | exact (rfl : _ = AV.sls _ _) | exact (rfl : _ = AV.tup _) | exact (rfl : _ = AV.agg _) | exact (rfl : _ = AV.pce _ _) | exact (rfl : _ = AV.emp) | exact (rfl : _ = AV.bysx _) | exact (rfl : _ = AV.slsx _ _) | exact (rfl : _ = AV.mp _) | exact (rfl : _ = AV.fnc _ _ _) | exact (rfl : _ = AV.pby _ _) | exact (rfl : _ = AV.ifc _ _)))) (by rfl))); exact k.out) : G := h ⟨k⟩
theorem ago {G F : Prop} (k : F) (h : Zw F -> G := by intro k; (apply ay; · exact zg (by ((repeat' (first | exact nq | apply np)); all_goals (first | exact (rfl : _ = AV.raw _) | exact (rfl : _ = AV.bys _) | exact (rfl : _ = AV.vw _ _ _ _) | exact (rfl : _ = AV.ptr _ _) | exact (rfl : _ = AV.str _) | exact (rfl : _ = AV.sls _ _) | exact (rfl : _ = AV.tup _) | exact (rfl : _ = AV.agg _) | exact (rfl : _ = AV.pce _ _) | exact (rfl : _ = AV.emp) | exact (rfl : _ = AV.bysx _) | exact (rfl : _ = AV.slsx _ _) | exact (rfl : _ = AV.mp _) | exact (rfl : _ = AV.fnc _ _ _) | exact (rfl : _ = AV.pby _ _) | exact (rfl : _ = AV.ifc _ _)))) (by rfl) (by rfl) (by rfl) (by ((repeat' (first | exact nq | apply np)); all_goals (first | exact (rfl : _ = AV.raw _) | exact (rfl : _ = AV.bys _) | exact (rfl : _ = AV.vw _ _ _ _) | exact (rfl : _ = AV.ptr _ _) | exact (rfl : _ = AV.str _) | exact (rfl : _ = AV.sls _ _) | exact (rfl : _ = AV.tup _) | exact (rfl : _ = AV.agg _) | exact (rfl : _ = AV.pce _ _) | exact (rfl : _ = AV.emp) | exact (rfl : _ = AV.bysx _) | exact (rfl : _ = AV.slsx _ _) | exact (rfl : _ = AV.mp _) | exact (rfl : _ = AV.fnc _ _ _) | exact (rfl : _ = AV.pby _ _) | exact (rfl : _ = AV.ifc _ _)))) (by decide)); exact k.out) : G := h ⟨k⟩
end Go.Proofs.Ytbciofnejefkiaa
