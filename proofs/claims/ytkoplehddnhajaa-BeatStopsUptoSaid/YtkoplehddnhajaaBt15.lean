import Derived.Test.YtkoplehddnhajaaBt14
namespace Go.Proofs.Ytkoplehddnhajaa
open Go Go.Am Go.Proofs
set_option linter.unusedSimpArgs false
set_option linter.unusedVariables false
set_option maxRecDepth 20000
set_option maxHeartbeats 4000000

/-! Alarms named by letters. -/
def nmo (j : Nat) : Nm := [UInt8.ofNat (97 + j)]
theorem nmo_inj {i j : Nat} (hi : i < 100) (hj : j < 100) (h : nmo i = nmo j) : i = j := by
  have h1 := congrArg UInt8.toNat (List.cons.inj h).1
  simp at h1; omega
def als (l : List Int) : Al := l.zipIdx.map fun p => (nmo p.2, p.1)
theorem als_snoc (l : List Int) (x : Int) : als (l ++ [x]) = als l ++ [(nmo l.length, x)] := by simp [als, List.zipIdx_append]
theorem als_len (l : List Int) : (als l).length = l.length := by simp [als]
theorem als_mem {l : List Int} {p : Nm × Int} (h : p ∈ als l) : ∃ j, l[j]? = some p.2 ∧ p.1 = nmo j := by
  obtain ⟨q, hq, rfl⟩ := List.mem_map.1 h
  exact ⟨q.2, by have := List.mem_zipIdx_iff_getElem?.1 hq; simpa using this, rfl⟩
theorem als_nodup {l : List Int} (hl : l.length ≤ 20) : ((als l).map Prod.fst).Nodup := by
  have : (als l).map Prod.fst = (List.range l.length).map nmo := by
    apply List.ext_getElem?
    intro i
    simp [als, List.getElem?_range]
    by_cases h : i < l.length
    · simp [h]
    · simp [h]
  rw [this, List.Nodup, List.pairwise_map]
  refine List.Pairwise.imp_of_mem (fun {a b} ha hb hne h => ?_) (List.nodup_range (n := l.length))
  rw [List.mem_range] at ha hb
  exact hne (nmo_inj (by omega) (by omega) h)
theorem als_ok {l : List Int} (hl : l.length ≤ 20) : (als l).Ok := ⟨als_nodup hl, by rw [als_len]; omega, fun s hs => by
  obtain ⟨p, hp, rfl⟩ := List.mem_map.1 hs
  obtain ⟨j, _, e⟩ := als_mem hp
  rw [e]; exact show 1 ≤ 60 by decide⟩
theorem set_new {l : Al} {s : Nm} (h : s ∉ l.map Prod.fst) (t : Int) : l.set s t = l ++ [(s, t)] := by
  induction l with
  | nil => rfl
  | cons x l ih =>
    obtain ⟨a, u⟩ := x
    rw [List.map_cons, List.mem_cons, not_or] at h
    show (if a = s then (s, t) :: l else (a, u) :: Al.set l s t) = _
    rw [if_neg (fun e => h.1 e.symm), ih h.2]
    rfl
theorem als_set {l : List Int} (hl : l.length < 20) (x : Int) : (als l).set (nmo l.length) x = als (l ++ [x]) := by
  rw [als_snoc, set_new]
  intro h
  obtain ⟨p, hp, e⟩ := List.mem_map.1 h
  obtain ⟨j, hj, e2⟩ := als_mem hp
  have := (List.getElem?_eq_some_iff.1 hj).1
  have := nmo_inj (by omega) (by omega) (e2.symm.trans e)
  omega
/-- What rings, as numbers. -/
theorem rings {l : List Int} (hl : l.length ≤ 20) (hv : ∀ x ∈ l, 1 ≤ x ∧ x ≤ 1000) (stop : Int) {L : Al} (hL : L = if 0 ≤ stop ∧ stop < (l.length : Int) then (als l).del (nmo stop.toNat) else als l) :
    L.Ok ∧ (∀ p ∈ L, p.2 ≤ 1000) ∧ L.length = (if 0 ≤ stop ∧ stop < (l.length : Int) then l.length - 1 else l.length) ∧ ∀ S : List Nm, S.Perm (L.map Prod.fst) → Srt L.tm S → ∃ ks : List Nat, S = ks.map nmo ∧ (∀ k ∈ ks, k < l.length ∧ (k : Int) ≠ stop) ∧ ks.Pairwise fun a b => l.getD a 0 ≤ l.getD b 0 := by
  have hok : L.Ok := by
    rw [hL]
    split
    · exact (als_ok hl).del _
    · exact als_ok hl
  have hsub : ∀ p ∈ L, p ∈ als l := by
    rw [hL]; split
    · rw [del_eq (als_nodup hl)]; intro p h; exact (List.mem_filter.1 h).1
    · exact fun p h => h
  have hst : ∀ p ∈ L, ∀ k : Nat, k < 100 → p.1 = nmo k → (k : Int) ≠ stop ∨ ¬ (0 ≤ stop ∧ stop < (l.length : Int)) := by
    intro p h k hk e
    rw [hL] at h
    split at h
    · rename_i hc
      rw [del_eq (als_nodup hl)] at h
      have := (List.mem_filter.1 h).2
      simp at this
      refine .inl fun e2 => this ?_
      rw [e, ← e2]
      rfl
    · rename_i hc
      exact .inr hc
  have hex : ∀ p ∈ L, ∃ k, p.1 = nmo k ∧ k < l.length ∧ (k : Int) ≠ stop ∧ p.2 = l.getD k 0 := by
    intro p h
    obtain ⟨k, hk, e⟩ := als_mem (hsub p h)
    have hkl := (List.getElem?_eq_some_iff.1 hk).1
    refine ⟨k, e, hkl, ?_, by simp [List.getD, hk]⟩
    rcases hst p h k (by omega) e with h1 | h1
    · exact h1
    · omega
  refine ⟨hok, fun p h => ?_, ?_, fun S hp hs => ⟨S.map (fun s => (s.headD 0).toNat - 97), ?_, ?_, ?_⟩⟩
  · obtain ⟨k, hk, _⟩ := als_mem (hsub p h)
    exact (hv p.2 (List.mem_of_getElem? hk)).2
  · rw [hL]
    split
    · rename_i hc
      have hm : nmo stop.toNat ∈ (als l).map Prod.fst := by
        have hg : l[stop.toNat]? = some (l[stop.toNat]'(by omega)) := List.getElem?_eq_getElem (by omega)
        refine List.mem_map.2 ⟨(nmo stop.toNat, l[stop.toNat]'(by omega)), ?_, rfl⟩
        refine List.mem_map.2 ⟨(l[stop.toNat]'(by omega), stop.toNat), List.mem_zipIdx_iff_getElem?.2 (by simp), rfl⟩
      have hdl : ∀ {L : Al} {s : Nm}, s ∈ L.map Prod.fst → (L.del s).length + 1 = L.length := by
        intro L s hm
        induction L with
        | nil => cases hm
        | cons x L ih =>
          obtain ⟨a, u⟩ := x
          show (if a = s then L else (a, u) :: Al.del L s).length + 1 = L.length + 1
          by_cases e : a = s
          · rw [if_pos e]
          · rw [if_neg e, List.length_cons, ih ((List.mem_cons.1 hm).resolve_left fun h => e h.symm)]
      have := hdl hm
      rw [als_len] at this
      omega
    · exact als_len l
  · rw [List.map_map]
    refine (List.map_id S).symm.trans (List.map_congr_left fun s hs => ?_)
    obtain ⟨p, h1, h2⟩ := List.mem_map.1 (hp.mem_iff.1 hs)
    obtain ⟨k, e, hk, _, _⟩ := hex p h1
    show s = nmo ((s.headD 0).toNat - 97)
    rw [← h2, e]
    have : (UInt8.ofNat (97 + k)).toNat = 97 + k := by simp; omega
    simp only [nmo, List.headD_cons, this]
    rw [show 97 + (97 + k - 97) = 97 + k by omega]
  · intro k hk
    obtain ⟨s, hs, rfl⟩ := List.mem_map.1 hk
    obtain ⟨p, h1, h2⟩ := List.mem_map.1 (hp.mem_iff.1 hs)
    obtain ⟨k, e, hk, hn, _⟩ := hex p h1
    have h3 : (s.headD 0).toNat - 97 = k := by
      rw [← h2, e]
      have : (UInt8.ofNat (97 + k)).toNat = 97 + k := by simp; omega
      simp only [nmo, List.headD_cons, this]; omega
    simp only [h3]
    exact ⟨hk, hn⟩
  · rw [List.pairwise_map]
    refine List.Pairwise.imp_of_mem (fun {x y} hx hy h => ?_) hs
    have tmv : ∀ s ∈ S, L.tm s = l.getD ((s.headD 0).toNat - 97) 0 := by
      intro s hs
      obtain ⟨p, h1, h2⟩ := List.mem_map.1 (hp.mem_iff.1 hs)
      obtain ⟨k, e, hk, hn, ev⟩ := hex p h1
      rw [← h2, tm_of_mem hok.nd p h1, ev, e]
      have : (UInt8.ofNat (97 + k)).toNat = 97 + k := by simp; omega
      simp only [nmo, List.headD_cons, this]
      rw [show 97 + k - 97 = k by omega]
    rw [← tmv x hx, ← tmv y hy]
    rcases h with h | ⟨h, _⟩ <;> omega
end Go.Proofs.Ytkoplehddnhajaa
