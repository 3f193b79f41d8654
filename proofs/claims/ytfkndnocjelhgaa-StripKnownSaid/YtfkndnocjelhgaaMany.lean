/- A region in which many operations make memory, each on its own, in any order: walked by what has been done, not by the orders. No condition. -/
import Derived.Test.YtfkndnocjelhgaaWLast
namespace Go.Proofs.Ytfkndnocjelhgaa.Ext
open Go Go.RowKit Go.Proofs.YtfkndnocjelhgaaW.PrintLast
set_option linter.unusedVariables false
set_option linter.unusedSimpArgs false

def lset (l : Array Bool) : List Nat → Array Bool
  | [] => l
  | j :: r => (lset l r).setIfInBounds j true
theorem lset_size (l : Array Bool) : ∀ D, (lset l D).size = l.size
  | [] => rfl
  | j :: r => by rw [lset, Array.size_setIfInBounds, lset_size l r]
theorem lset_get (l : Array Bool) (i : Nat) : ∀ D, (lset l D)[i]? = if i ∈ D ∧ i < l.size then some true else l[i]?
  | [] => by simp [lset]
  | j :: r => by
    rw [lset, Array.getElem?_setIfInBounds, lset_size, lset_get l i r]
    by_cases h : j = i
    · subst h
      by_cases h2 : j < l.size
      · simp [h2]
      · have h3 : l.size ≤ j := by omega
        simp [h2, h3]
    · have h' : ¬ i = j := fun e => h e.symm
      simp [h, h']
theorem lset_getD (l : Array Bool) (d : Bool) (i : Nat) (D : List Nat) : (lset l D).getD i d = if i ∈ D ∧ i < l.size then true else l.getD i d := by
  rw [Array.getD_eq_getD_getElem?, Array.getD_eq_getD_getElem?, lset_get]
  split <;> rfl
def aput (T : Nat → Tmp) (a : Act) : List (Nat × Value) → Act
  | [] => a
  | (j, v) :: r => (aput T a r).put (some (T j)) v
theorem aput_defers (T : Nat → Tmp) (a : Act) : ∀ D, (aput T a D).defers = a.defers
  | [] => rfl
  | (j, v) :: r => aput_defers T a r
theorem aput_size (T : Nat → Tmp) (a : Act) : ∀ D, (aput T a D).tmps.size = a.tmps.size
  | [] => rfl
  | (j, v) :: r => by
    show ((aput T a r).tmps.setIfInBounds (T j) v).size = _
    rw [Array.size_setIfInBounds, aput_size T a r]
theorem aput_get (T : Nat → Tmp) (a : Act) (s : Nat) : ∀ D : List (Nat × Value), (aput T a D).tmps[s]? = match D.find? (fun p => T p.1 == s) with | some p => if s < a.tmps.size then some p.2 else none | none => a.tmps[s]?
  | [] => rfl
  | (j, v) :: r => by
    show ((aput T a r).tmps.setIfInBounds (T j) v)[s]? = _
    rw [Array.getElem?_setIfInBounds, aput_size, aput_get T a s r, List.find?_cons]
    by_cases h : T j = s
    · subst h
      have e : (T j == T j) = true := by simp
      rw [if_pos rfl, e]
    · have e : (T j == s) = false := by simpa using h
      rw [if_neg h, e]
theorem aput_eval (T : Nat → Tmp) (a : Act) (s : Nat) (D : List (Nat × Value)) (h : ∀ p ∈ D, T p.1 ≠ s) : (aput T a D).eval (.tmp s) = a.eval (.tmp s) := by
  show (aput T a D).tmps.getD s undef = a.tmps.getD s undef
  rw [Array.getD_eq_getD_getElem?, Array.getD_eq_getD_getElem?, aput_get]
  have : D.find? (fun p => T p.1 == s) = none := List.find?_eq_none.2 fun p hp => by simpa using h p hp
  rw [this]
theorem nodup_len : ∀ {J K : List Nat}, J.Nodup → (∀ x ∈ J, x ∈ K) → J.length ≤ K.length
  | [], K, _, _ => Nat.zero_le _
  | x :: J, K, hn, hs => by
    obtain ⟨h1, h2⟩ := List.nodup_cons.1 hn
    have hx := hs x List.mem_cons_self
    have := nodup_len (K := K.erase x) h2 (fun y hy => (List.mem_erase_of_ne (by rintro rfl; exact h1 hy)).2 (hs y (List.mem_cons_of_mem _ hy)))
    rw [List.length_erase_of_mem hx] at this
    have : 0 < K.length := List.length_pos_of_mem hx
    simp only [List.length_cons]
    omega
def lookV (D : List (Nat × Value)) (j : Nat) : Value := match D.find? (fun p => p.1 == j) with | some p => p.2 | none => undef
theorem lookV_mem : ∀ {D : List (Nat × Value)} {j : Nat} {v : Value}, (D.map Prod.fst).Nodup → (j, v) ∈ D → lookV D j = v
  | [], _, _, _, h => by cases h
  | (i, u) :: r, j, v, hn, h => by
    obtain ⟨h1, h2⟩ := List.nodup_cons.1 (by simpa using hn : (i :: r.map Prod.fst).Nodup)
    unfold lookV
    rw [List.find?_cons]
    rcases List.mem_cons.1 h with h | h
    · injection h with e1 e2
      subst e1; subst e2
      simp
    · have hne : i ≠ j := fun e => h1 (e ▸ List.mem_map_of_mem (f := Prod.fst) h)
      have e : (i == j) = false := by simpa using hne
      rw [e]
      exact lookV_mem h2 h
section
variable {P : Program} {md : Region.Mode} {ops : Array Oper} {Q : Exit → Act → World → Prop} {S : World → Prop} {ds : List Nat}
def manyB (md : Region.Mode) (ops : Array Oper) (l0 l1 : Array Bool) (J rest : List Nat) : Bool :=
  (Region.ready md ops l0 == J) && decide J.Nodup && ((List.range l0.size).all fun i => l0.getD i true || J.contains i || rest.contains i) &&
  (rest.all fun i => J.all fun j => match ops[i]? with | some o => o.after.any (fun e => Region.binds md e && e.on == j) | none => true) && (lset l0 J == l1)
theorem many_ {l0 l1 : Array Bool} {a0 : Act} {w0 : World} (T : Nat → Tmp) (J rest : List Nat) (G : Nat → World → Value → Prop) (k : Nat) (n : Nat) (hn : n = J.length + k)
    (hc : manyB md ops l0 l1 J rest = true) (hd : ∀ j ∈ J, j ∉ ds) (hT : ∀ i ∈ J, ∀ j ∈ J, T i = T j → i = j) (hS0 : S w0)
    (hstep : ∀ j ∈ J, ∀ a w, (∀ s, (∀ i ∈ J, T i ≠ s) → a.eval (.tmp s) = a0.eval (.tmp s)) → S w → ∀ K : Act → World → Prop, (∀ v w1, S w1 → G j w1 v → (∀ i v', G i w v' → G i w1 v') → K (a.put (some (T j)) v) w1) → wpOp P ops Q j K a w)
    (hfin : ∀ (f : Nat → Value) w, S w → (∀ j ∈ J, G j w (f j)) → wpAnyLast P md ops Q S ds k l1 (aput T a0 (J.map fun j => (j, f j))) w) :
    wpAnyLast P md ops Q S ds n l0 a0 w0 := by
  subst hn
  simp only [manyB, Bool.and_eq_true, beq_iff_eq, decide_eq_true_eq] at hc
  obtain ⟨⟨⟨⟨hr, hnd⟩, hall⟩, hrest⟩, hl1⟩ := hc
  have hJ : ∀ j ∈ J, l0.getD j true = false ∧ j < l0.size ∧ ∃ o, ops[j]? = some o ∧ ∀ e ∈ o.after, Region.binds md e = true → l0.getD e.on false = true := fun j hj => by
    rw [← hr] at hj
    obtain ⟨h1, h2⟩ := mem_ready.1 hj
    refine ⟨h1, ?_, h2⟩
    rw [Array.getD_eq_getD_getElem?] at h1
    by_cases h : j < l0.size
    · exact h
    · rw [Array.getElem?_eq_none (by omega)] at h1; cases h1
  have main : ∀ (m : Nat) (D : List (Nat × Value)) (w : World), D.length + m = J.length → (D.map Prod.fst).Nodup → (∀ p ∈ D, p.1 ∈ J) → S w → (∀ p ∈ D, G p.1 w p.2) → wpAnyLast P md ops Q S ds (m + k) (lset l0 (D.map Prod.fst)) (aput T a0 D) w := by
    intro m
    induction m with
    | zero =>
      intro D w hlen hn hin hS hG
      have hsub : ∀ j ∈ J, j ∈ D.map Prod.fst := fun j hj => Classical.byContradiction fun hj' => by
        have h1 := nodup_len (J := j :: D.map Prod.fst) (K := J) (List.nodup_cons.2 ⟨hj', hn⟩) (fun x hx => by
          rcases List.mem_cons.1 hx with rfl | hx
          · exact hj
          · obtain ⟨p, hp, rfl⟩ := List.mem_map.1 hx
            exact hin p hp)
        simp only [List.length_cons, List.length_map] at h1
        omega
      have hval : ∀ p ∈ D, lookV D p.1 = p.2 := fun p hp => lookV_mem hn hp
      have h := hfin (lookV D) w hS (fun j hj => by
        obtain ⟨p, hp, rfl⟩ := List.mem_map.1 (hsub j hj)
        rw [hval p hp]
        exact hG p hp)
      have el : lset l0 (D.map Prod.fst) = l1 := by
        rw [← hl1]
        refine Array.ext_getElem? fun i => ?_
        rw [lset_get, lset_get]
        have : (i ∈ D.map Prod.fst) ↔ i ∈ J := ⟨fun hx => by obtain ⟨p, hp, rfl⟩ := List.mem_map.1 hx; exact hin p hp, hsub i⟩
        simp only [this]
      have ea : aput T a0 D = aput T a0 (J.map fun j => (j, lookV D j)) := by
        have e1 : (aput T a0 D).tmps = (aput T a0 (J.map fun j => (j, lookV D j))).tmps := by
          refine Array.ext_getElem? fun s => ?_
          rw [aput_get, aput_get]
          cases h1 : D.find? (fun p => T p.1 == s) with
          | some p =>
            have hp := List.mem_of_find?_eq_some h1
            have hs : T p.1 = s := by simpa using List.find?_some h1
            cases h2 : (J.map fun j => (j, lookV D j)).find? (fun p => T p.1 == s) with
            | some q =>
              have hq := List.mem_of_find?_eq_some h2
              have hs2 : T q.1 = s := by simpa using List.find?_some h2
              obtain ⟨j, hj, rfl⟩ := List.mem_map.1 hq
              have : p.1 = j := hT _ (hin p hp) _ hj (hs.trans hs2.symm)
              show (if s < a0.tmps.size then some p.2 else none) = (if s < a0.tmps.size then some (lookV D j) else none)
              rw [← this, hval p hp]
            | none =>
              have := List.find?_eq_none.1 h2 (p.1, lookV D p.1) (List.mem_map.2 ⟨p.1, hin p hp, rfl⟩)
              exact absurd (by simpa using hs) this
          | none =>
            cases h2 : (J.map fun j => (j, lookV D j)).find? (fun p => T p.1 == s) with
            | some q =>
              have hq := List.mem_of_find?_eq_some h2
              have hs2 : T q.1 = s := by simpa using List.find?_some h2
              obtain ⟨j, hj, rfl⟩ := List.mem_map.1 hq
              obtain ⟨p, hp, e⟩ := List.mem_map.1 (hsub j hj)
              have := List.find?_eq_none.1 h1 p hp
              refine absurd ?_ this
              rw [e]
              simpa using hs2
            | none => rfl
        have e2 := (aput_defers T a0 D).trans (aput_defers T a0 (J.map fun j => (j, lookV D j))).symm
        cases h1 : aput T a0 D
        cases h2 : aput T a0 (J.map fun j => (j, lookV D j))
        rw [h1, h2] at e1 e2
        cases e1
        cases e2
        rfl
      rw [el, ea, Nat.zero_add]
      exact h
    | succ m ih =>
      intro D w hlen hn hin hS hG
      obtain ⟨j0, hj0, hj0n⟩ : ∃ j, j ∈ J ∧ j ∉ D.map Prod.fst := Classical.byContradiction fun h => by
        have h1 := nodup_len (J := J) (K := D.map Prod.fst) hnd (fun x hx => Classical.byContradiction fun hx' => h ⟨x, hx, hx'⟩)
        rw [List.length_map] at h1
        omega
      have hle : ∀ i d, l0.getD i d = true → (lset l0 (D.map Prod.fst)).getD i d = true := fun i d h => by
        rw [lset_getD]
        split
        · rfl
        · exact h
      rw [show m + 1 + k = m + k + 1 by omega]
      refine ⟨fun h => ?_, fun i hi => ?_⟩
      · obtain ⟨h1, h2, o, ho, hdep⟩ := hJ j0 hj0
        have : j0 ∈ Region.ready md ops (lset l0 (D.map Prod.fst)) := mem_ready.2 ⟨by rw [lset_getD, if_neg (fun h => hj0n h.1)]; exact h1, o, ho, fun e he hb => hle _ _ (hdep e he hb)⟩
        rw [h] at this
        cases this
      · obtain ⟨h1, o, ho, hdep⟩ := mem_ready.1 hi
        rw [lset_getD] at h1
        split at h1
        · cases h1
        · rename_i hni
          have hlt : i < l0.size := by
            by_cases h : i < l0.size
            · exact h
            · rw [Array.getD_eq_getD_getElem?, Array.getElem?_eq_none (by omega)] at h1; cases h1
          have hi2 := List.all_eq_true.1 hall i (List.mem_range.2 hlt)
          rw [h1] at hi2
          simp only [Bool.false_or, Bool.or_eq_true, List.contains_iff_mem] at hi2
          rcases hi2 with hiJ | hiR
          · have hik : i ∉ D.map Prod.fst := fun h => hni ⟨h, hlt⟩
            refine hstep i hiJ (aput T a0 D) w (fun s hs => aput_eval T a0 s D (fun p hp => hs p.1 (hin p hp))) hS _ (fun v w1 hS1 hGv hGm => ⟨fun _ _ => hS1, ?_⟩)
            exact ih ((i, v) :: D) w1 (by simp only [List.length_cons]; omega) (List.nodup_cons.2 ⟨hik, hn⟩) (fun p hp => by
              rcases List.mem_cons.1 hp with rfl | hp
              · exact hiJ
              · exact hin p hp) hS1 (fun p hp => by
              rcases List.mem_cons.1 hp with rfl | hp
              · exact hGv
              · exact hGm _ _ (hG p hp))
          · have h3 := List.all_eq_true.1 (List.all_eq_true.1 hrest i hiR) j0 hj0
            rw [ho] at h3
            simp only [Array.any_eq_true'] at h3
            obtain ⟨e, he, hb⟩ := h3
            simp only [Bool.and_eq_true, beq_iff_eq] at hb
            have h4 := hdep e he hb.1
            rw [hb.2, lset_getD, if_neg (fun h => hj0n h.1)] at h4
            obtain ⟨h5, h6, -⟩ := hJ j0 hj0
            rw [Array.getD_eq_getD_getElem?, Array.getElem?_eq_getElem h6] at h4 h5
            simp only [Option.getD_some] at h4 h5
            rw [h4] at h5
            cases h5
  exact main J.length [] w0 (by simp) List.nodup_nil (fun p hp => by cases hp) hS0 (fun p hp => by cases hp)
/-- the operations that one waits for -/
def depsOf (md : Region.Mode) (ops : Array Oper) (j : Nat) : List Nat := match ops[j]? with | some o => (o.after.toList.filter (Region.binds md)).map (·.on) | none => []
def allB (md : Region.Mode) (ops : Array Oper) (n : Nat) : Bool := (List.range n).all fun i => match ops[i]? with | some o => o.after.all (fun e => !Region.binds md e || decide (e.on < i)) | none => false
theorem aput_mem {T : Nat → Tmp} {a : Act} {D : List (Nat × Value)} {n j : Nat} {v : Value} (hn : (D.map Prod.fst).Nodup) (hin : ∀ p ∈ D, p.1 < n) (hT : ∀ i, i < n → ∀ j, j < n → T i = T j → i = j) (hj : (j, v) ∈ D) (hs : T j < a.tmps.size) : (aput T a D).eval (.tmp (T j)) = v := by
  show (aput T a D).tmps.getD (T j) undef = v
  rw [Array.getD_eq_getD_getElem?, aput_get]
  cases h1 : D.find? (fun p => T p.1 == T j) with
  | none => exact absurd (by simp) (List.find?_eq_none.1 h1 (j, v) hj)
  | some p =>
    have hp := List.mem_of_find?_eq_some h1
    have e : T p.1 = T j := by simpa using List.find?_some h1
    have e2 := hT _ (hin p hp) _ (hin _ hj) e
    have h2 := lookV_mem hn hj
    have h3 := lookV_mem (j := p.1) (v := p.2) hn hp
    show (if T j < a.tmps.size then some p.2 else none).getD undef = v
    rw [if_pos hs]
    rw [← h2, ← h3, e2]
    rfl
/-- A region of which each operation's value is told by G, in whatever order they come up. -/
theorem all_ {a0 : Act} {w0 : World} (T : Nat → Tmp) (n : Nat) (G : Nat → World → Value → Prop) (hn : ops.size = n)
    (hc : allB md ops n = true) (hT : ∀ i, i < n → ∀ j, j < n → T i = T j → i = j) (hTs : ∀ i, i < n → T i < a0.tmps.size) (hS0 : S w0)
    (hstep : ∀ j, j < n → ∀ a w, (∀ s, (∀ i, i < n → T i ≠ s) → a.eval (.tmp s) = a0.eval (.tmp s)) → (∀ i, (depsOf md ops j).contains i = true → G i w (a.eval (.tmp (T i)))) → S w → ∀ K : Act → World → Prop, (∀ v w1, S w1 → G j w1 v → (∀ i v', G i w v' → G i w1 v') → K (a.put (some (T j)) v) w1) → wpOp P ops Q j K a w)
    (hfin : ∀ a w, a.tmps.size = a0.tmps.size → a.defers = a0.defers → (∀ s, (∀ i, i < n → T i ≠ s) → a.eval (.tmp s) = a0.eval (.tmp s)) → S w → (∀ j, j < n → G j w (a.eval (.tmp (T j)))) → Q .normal a w) :
    wpAnyLast P md ops Q S [] n (Array.replicate n false) a0 w0 := by
  have hdep : ∀ i o, ops[i]? = some o → ∀ e ∈ o.after, Region.binds md e = true → e.on < i := fun i o ho e he hb => by
    have hi : i < n := by rw [← hn]; exact (Array.getElem?_eq_some_iff.1 ho).1
    have h := List.all_eq_true.1 hc i (List.mem_range.2 hi)
    rw [ho] at h
    have h2 := (Array.all_eq_true_iff_forall_mem.1 h) e he
    rw [hb] at h2
    simpa using h2
  have h0 : ∀ i d, (Array.replicate n false).getD i d = if i < n then false else d := fun i d => by
    rw [Array.getD_eq_getD_getElem?, Array.getElem?_replicate]
    split <;> rfl
  have hs0 : (Array.replicate n false).size = n := Array.size_replicate
  have main : ∀ (m : Nat) (D : List (Nat × Value)) (w : World), D.length + m = n → (D.map Prod.fst).Nodup → (∀ p ∈ D, p.1 < n) → S w → (∀ p ∈ D, G p.1 w p.2) → wpAnyLast P md ops Q S [] m (lset (Array.replicate n false) (D.map Prod.fst)) (aput T a0 D) w := by
    intro m
    have hfinal : ∀ (D : List (Nat × Value)) (w : World), (D.map Prod.fst).Nodup → (∀ p ∈ D, p.1 < n) → S w → (∀ p ∈ D, G p.1 w p.2) → (∀ j, j < n → j ∈ D.map Prod.fst) → Q .normal (aput T a0 D) w := fun D w hn' hin hS hG hall => by
      refine hfin _ w (aput_size T a0 D) (aput_defers T a0 D) (fun s hs => aput_eval T a0 s D (fun p hp => hs p.1 (hin p hp))) hS (fun j hj => ?_)
      obtain ⟨p, hp, rfl⟩ := List.mem_map.1 (hall j hj)
      rw [aput_mem hn' hin hT (v := p.2) hp (hTs _ hj)]
      exact hG p hp
    have hdone : ∀ (D : List (Nat × Value)), (∀ p ∈ D, p.1 < n) → Region.ready md ops (lset (Array.replicate n false) (D.map Prod.fst)) = [] → ∀ j, j < n → j ∈ D.map Prod.fst := fun D hin hr j => by
      induction j using Nat.strongRecOn with
      | ind j ih =>
        intro hj
        refine Classical.byContradiction fun hj' => ?_
        obtain ⟨o, ho⟩ : ∃ o, ops[j]? = some o := ⟨_, Array.getElem?_eq_getElem (by rw [hn]; exact hj)⟩
        have : j ∈ Region.ready md ops (lset (Array.replicate n false) (D.map Prod.fst)) := mem_ready.2 ⟨by
          rw [lset_getD, if_neg (fun h => hj' h.1), h0, if_pos hj], o, ho, fun e he hb => by
          have hlt := hdep j o ho e he hb
          rw [lset_getD, if_pos ⟨ih e.on hlt (Nat.lt_trans hlt hj), by rw [hs0]; exact Nat.lt_trans hlt hj⟩]⟩
        rw [hr] at this
        cases this
    have hready : ∀ (D : List (Nat × Value)) i, i ∈ Region.ready md ops (lset (Array.replicate n false) (D.map Prod.fst)) → i < n ∧ i ∉ D.map Prod.fst ∧ ∀ e, (depsOf md ops i).contains e = true → e ∈ D.map Prod.fst := fun D i hi => by
      obtain ⟨h1, o, ho, hd⟩ := mem_ready.1 hi
      have hlt : i < n := by rw [← hn]; exact (Array.getElem?_eq_some_iff.1 ho).1
      refine ⟨hlt, fun h => ?_, fun e he => ?_⟩
      · rw [lset_getD, if_pos ⟨h, by rw [hs0]; exact hlt⟩] at h1
        cases h1
      · unfold depsOf at he
        rw [ho] at he
        simp only [List.contains_iff_mem, List.mem_map, List.mem_filter, Array.mem_toList_iff] at he
        obtain ⟨g, ⟨hg, hb⟩, rfl⟩ := he
        have h3 := hd g hg hb
        rw [lset_getD] at h3
        split at h3
        · rename_i h4; exact h4.1
        · rw [h0] at h3
          split at h3 <;> cases h3
    induction m with
    | zero =>
      intro D w hlen hn' hin hS hG
      have hall : ∀ j, j < n → j ∈ D.map Prod.fst := fun j hj => Classical.byContradiction fun hj' => by
        have h1 := nodup_len (J := j :: D.map Prod.fst) (K := List.range n) (List.nodup_cons.2 ⟨hj', hn'⟩) (fun x hx => by
          rcases List.mem_cons.1 hx with rfl | hx
          · exact List.mem_range.2 hj
          · obtain ⟨p, hp, rfl⟩ := List.mem_map.1 hx
            exact List.mem_range.2 (hin p hp))
        simp only [List.length_cons, List.length_map, List.length_range] at h1
        omega
      refine ⟨?_, hfinal D w hn' hin hS hG hall⟩
      refine List.eq_nil_iff_forall_not_mem.2 fun i hi => ?_
      obtain ⟨h1, h2, -⟩ := hready D i hi
      exact h2 (hall i h1)
    | succ m ih =>
      intro D w hlen hn' hin hS hG
      refine ⟨fun h => hfinal D w hn' hin hS hG (hdone D hin h), fun i hi => ?_⟩
      obtain ⟨hlt, hni, hd⟩ := hready D i hi
      refine hstep i hlt (aput T a0 D) w (fun s hs => aput_eval T a0 s D (fun p hp => hs p.1 (hin p hp))) (fun e he => ?_) hS _ (fun v w1 hS1 hGv hGm => ⟨fun _ _ => hS1, ?_⟩)
      · obtain ⟨p, hp, rfl⟩ := List.mem_map.1 (hd e he)
        rw [aput_mem hn' hin hT (v := p.2) hp (hTs _ (hin p hp))]
        exact hG p hp
      · exact ih ((i, v) :: D) w1 (by simp only [List.length_cons]; omega) (List.nodup_cons.2 ⟨hni, hn'⟩) (fun p hp => by
          rcases List.mem_cons.1 hp with rfl | hp
          · exact hlt
          · exact hin p hp) hS1 (fun p hp => by
          rcases List.mem_cons.1 hp with rfl | hp
          · exact hGv
          · exact hGm _ _ (hG p hp))
  exact main n [] w0 (by simp) List.nodup_nil (fun p hp => by cases hp) hS0 (fun p hp => by cases hp)
end
end Go.Proofs.Ytfkndnocjelhgaa.Ext
