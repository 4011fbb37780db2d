/-
  Texts joined.
-/
import Derived.Deep.RegionHeld3
import Derived.Test.YtkiljcbejmiioaaGreatLK5
set_option linter.unusedVariables false
set_option linter.unusedSimpArgs false
set_option maxRecDepth 100000
set_option maxHeartbeats 40000000
namespace Go.Proofs.YtkiljcbejmiioaaGreat
open Go.RowKit
def anyU (P : Program) (ops : Array Oper) (Q : Exit → Act → World → Prop) (S : World → Prop) (g : Nat) : Nat → Array Bool → Act → World → Prop
 | 0, l, a, w => Region.ready .any ops l = [] ∧ Q .normal a w
 | n + 1, l, a, w => (Region.ready .any ops l = [] → Q .normal a w) ∧
     ∀ i ∈ Region.ready .any ops l, wpOp P ops Q i (fun a' w' => ((l.setIfInBounds i true).getD g true = false → S w') ∧ anyU P ops Q S g n (l.setIfInBounds i true) a' w') a w
section
variable {P : Program} {ops : Array Oper} {Q : Exit → Act → World → Prop} {S T : World → Prop} {g : Nat}
theorem anyU_any : ∀ (n : Nat) (l : Array Bool) (a : Act) (w : World), anyU P ops Q S g n l a w → wpAny P .any ops Q n l a w := by
 intro n
 induction n with
 | zero => exact fun _ _ _ h => h
 | succ n ih => exact fun l a w h => ⟨h.1, fun i hi => wpOp_mono (fun a' w' k => ih _ a' w' k.2) (h.2 i hi)⟩
def Waits (ops : Array Oper) (g i : Nat) : Bool := match ops[g]? with | some o => o.after.any (fun e => Region.binds .any e && e.on == i) | none => false
theorem anyU_first {i : Nat} {oi : Oper} {v : Value} (hig : i ≠ g) (hi : ops[i]? = some oi) (hns : Region.noSelect ops = true) (hQ : ∀ c a w, Q (.panic c) (a.put oi.dst v) w → Q (.panic c) a w)
    (hT : (∀ w, T w) ∨ (Waits ops g i = true ∧ ∀ w, S w → T w)) : ∀ (n : Nat) (l : Array Bool) (a : Act) (w : World),
     (∀ j oj, ops[j]? = some oj → j ≠ i → l.getD j true = false → (∀ e ∈ oj.after, Region.binds .any e = true → e.on ≠ i) → oi.apart ops oj = true) →
     i ∈ Region.ready .any ops l → YieldsIf P ops T oi v a → (l.getD g true = false → S w) → T w → ((∀ w, T w) ∨ l.getD g true = false) →
     anyU P ops Q S g n (l.setIfInBounds i true) (a.put oi.dst v) w → anyU P ops Q S g (n + 1) l a w := by
 have hsel := Region.noSelect_spec hns
 have here : ∀ (n : Nat) (l : Array Bool) (a : Act) (w : World), YieldsIf P ops T oi v a → (l.getD g true = false → S w) → T w → anyU P ops Q S g n (l.setIfInBounds i true) (a.put oi.dst v) w →
     wpOp P ops Q i (fun a' w' => ((l.setIfInBounds i true).getD g true = false → S w') ∧ anyU P ops Q S g n (l.setIfInBounds i true) a' w') a w := fun n l a w hy hS hTw H =>
  hy.wpOp hi hTw ⟨fun e => hS (by rwa [getD_set_ne true hig] at e), H⟩
 intro n
 induction n with
 | zero =>
  intro l a w _ hr hy hS hTw _ H
  refine ⟨fun h => absurd hr (by rw [h]; simp), fun j hj => ?_⟩
  by_cases e : j = i
  · subst e; exact here 0 l a w hy hS hTw H
  · exact absurd (ready_mono hj e) (by rw [H.1]; simp)
 | succ n ih =>
  intro l a w hf hr hy hS hTw hgl H
  refine ⟨fun h => absurd hr (by rw [h]; simp), fun j hj => ?_⟩
  by_cases e : j = i
  · subst e; exact here (n + 1) l a w hy hS hTw H
  · obtain ⟨hj0, oj, hoj, hall⟩ := mem_ready.1 hj
    have hi0 := (mem_ready.1 hr).1
    have hilt : i < l.size := by
     rcases Nat.lt_or_ge i l.size with h | h
     · exact h
     · simp [Array.getElem?_eq_none h] at hi0
    have nw : ∀ e ∈ oj.after, Region.binds .any e = true → e.on ≠ i := by
     intro x hx hb he
     have h1 := hall x hx hb
     rw [he] at h1
     simp [hilt] at h1 hi0
     rw [hi0] at h1
     cases h1
    have hjg : (∀ w, T w) ∨ j ≠ g := by
     rcases hT with h | ⟨h, _⟩
     · exact .inl h
     · refine .inr fun ejg => ?_
       subst ejg
       unfold Waits at h
       rw [hoj] at h
       simp only [Array.any_eq_true', Bool.and_eq_true, beq_iff_eq] at h
       obtain ⟨x, hx, hb, hxe⟩ := h
       exact nw x hx hb hxe
    have step := wpOp_putIf hoj (hf j oj hoj e hj0 nw) (fun cs b => hsel i oi cs b hi) (fun cs b => hsel j oj cs b hoj) hQ hy (H.2 j (ready_mono hj e))
    refine wpOp_mono (fun a' w' hk => ?_) step
    obtain ⟨hy', hS', hU⟩ := hk
    have ce : ((l.setIfInBounds i true).setIfInBounds j true) = ((l.setIfInBounds j true).setIfInBounds i true) := Array.setIfInBounds_comm _ _ (Ne.symm e)
    have hSj : (l.setIfInBounds j true).getD g true = false → S w' := fun h0 => hS' (by rw [ce, getD_set_ne true hig]; exact h0)
    have hTw' : T w' := by
     rcases hT with h | ⟨_, h⟩
     · exact h w'
     · rcases hgl with h2 | h2
       · exact h2 w'
       · rcases hjg with h3 | h3
         · exact h3 w'
         · exact h w' (hSj (by rw [getD_set_ne true h3]; exact h2))
    refine ⟨hSj, ih _ a' w' ?_ (ready_mono hr (Ne.symm e)) hy' hSj hTw' ?_ (by rw [← ce]; exact hU)⟩
    · intro k ok hk hki hk0 hno
      refine hf k ok hk hki ?_ hno
      by_cases hjk : j = k
      · subst hjk; exact hj0
      · rwa [getD_set_ne true hjk] at hk0
    · rcases hgl with h2 | h2
      · exact .inl h2
      · rcases hjg with h3 | h3
        · exact .inl h3
        · exact .inr (by rw [getD_set_ne true h3]; exact h2)
theorem anyU_pure {i : Nat} {oi : Oper} {v : Value} {n : Nat} {l : Array Bool} {a : Act} {w : World} (hig : i ≠ g) (hi : ops[i]? = some oi) (hns : Region.noSelect ops = true) (hf : Region.free .any ops l i = true)
    (hr : (Region.ready .any ops l).contains i = true) (hQ : ∀ c a w, Q (.panic c) (a.put oi.dst v) w → Q (.panic c) a w) (hy : YieldsIf P ops (fun _ => True) oi v a) (hS : l.getD g true = false → S w)
    (h : anyU P ops Q S g n (l.setIfInBounds i true) (a.put oi.dst v) w) : anyU P ops Q S g (n + 1) l a w :=
 anyU_first hig hi hns hQ (.inl fun _ => trivial) n l a w (Region.free_spec hi hf) (by simpa using hr) hy hS trivial (.inl fun _ => trivial) h
theorem anyU_read {i : Nat} {oi : Oper} {v : Value} {n : Nat} {l : Array Bool} {a : Act} {w : World} (hig : i ≠ g) (hi : ops[i]? = some oi) (hns : Region.noSelect ops = true) (hf : Region.free .any ops l i = true)
    (hr : (Region.ready .any ops l).contains i = true) (hQ : ∀ c a w, Q (.panic c) (a.put oi.dst v) w → Q (.panic c) a w) (hw : Waits ops g i = true) (hgl : l.getD g true = false) (hy : YieldsIf P ops S oi v a) (hS : S w)
    (h : anyU P ops Q S g n (l.setIfInBounds i true) (a.put oi.dst v) w) : anyU P ops Q S g (n + 1) l a w :=
 anyU_first hig hi hns hQ (.inr ⟨hw, fun _ h => h⟩) n l a w (Region.free_spec hi hf) (by simpa using hr) hy (fun _ => hS) hS (.inr hgl) h
theorem anyU_done {n : Nat} {l : Array Bool} {a : Act} {w : World} (hr : Region.ready .any ops l = []) (h : Q .normal a w) : anyU P ops Q S g n l a w := by
 cases n with
 | zero => exact ⟨hr, h⟩
 | succ n => exact ⟨fun _ => h, fun i hi => absurd hi (by rw [hr]; simp)⟩
def NextU (P : Program) (ops : Array Oper) (Q : Exit → Act → World → Prop) (S : World → Prop) (g n : Nat) (l : Array Bool) (a : Act) (w : World) (rs : List Nat) : Prop :=
 ∀ i ∈ rs, wpOp P ops Q i (fun a' w' => ((l.setIfInBounds i true).getD g true = false → S w') ∧ anyU P ops Q S g n (l.setIfInBounds i true) a' w') a w
theorem anyU_next {rs : List Nat} {n : Nat} {l : Array Bool} {a : Act} {w : World} (hr : Region.ready .any ops l = rs) (hne : rs ≠ []) (h : NextU P ops Q S g n l a w rs) : anyU P ops Q S g (n + 1) l a w :=
 ⟨fun h0 => absurd (hr ▸ h0) hne, fun i hi => h i (hr ▸ hi)⟩
theorem NextU.nil {n : Nat} {l : Array Bool} {a : Act} {w : World} : NextU P ops Q S g n l a w [] := fun _ h => by cases h
theorem NextU.cons {n : Nat} {l : Array Bool} {a : Act} {w : World} {i : Nat} {o : Oper} {rs : List Nat} (ho : ops[i]? = some o)
    (h : ∀ K' : Act → World → Prop, Shut (∀ a w, S w → (S w → anyU P ops Q S g n (l.setIfInBounds i true) a w) → K' a w) → if Region.wanted o (yielded ops a.tmps) = true then Oper.wp P o a w K' Q else K' (a.put o.dst undef) w)
    (hs : NextU P ops Q S g n l a w rs) : NextU P ops Q S g n l a w (i :: rs) := fun j hj => by
 rcases List.mem_cons.1 hj with rfl | hj
 · exact wpOp_step ho (fun K' hK => h K' (fun a w h1 h2 => hK a w ⟨fun _ => h1, h2 h1⟩))
 · exact hs j hj
theorem NextU.free {n : Nat} {l : Array Bool} {a : Act} {w : World} {i : Nat} {o : Oper} {rs : List Nat} (hl : (l.setIfInBounds i true).getD g true = true) (ho : ops[i]? = some o)
    (h : ∀ K' : Act → World → Prop, Shut (∀ a w, anyU P ops Q S g n (l.setIfInBounds i true) a w → K' a w) → if Region.wanted o (yielded ops a.tmps) = true then Oper.wp P o a w K' Q else K' (a.put o.dst undef) w)
    (hs : NextU P ops Q S g n l a w rs) : NextU P ops Q S g n l a w (i :: rs) := fun j hj => by
 rcases List.mem_cons.1 hj with rfl | hj
 · exact wpOp_step ho (fun K' hK => h K' (fun a w h2 => hK a w ⟨fun e => (by rw [hl] at e; cases e), h2⟩))
 · exact hs j hj
theorem region_until {id : Nat} {a : Act} {w : World} (hm : P.follows .mixedOrders = true) (h : anyU P ops Q S g ops.size (Array.replicate ops.size false) a w.drew) : (Code.region id ops true).wp P Q a w :=
 wp_region_any hm (anyU_any _ _ _ _ h)
end
end Go.Proofs.YtkiljcbejmiioaaGreat
namespace Go.Proofs.YtkiljcbejmiioaaGreat
open Go.RowKit
section
variable {P : Program} {ops : Array Oper} {Q : Exit → Act → World → Prop} {S T : World → Prop} {g : Nat}
def closedDep (ops : Array Oper) (dep : List Nat) (i : Nat) : Bool := dep.all fun j => match ops[j]? with | some o => o.after.any (fun e => Region.binds .any e && (e.on == i || dep.contains e.on)) | none => false
theorem anyU_firstT {i : Nat} {oi : Oper} {v : Value} {dep : List Nat} (hi : ops[i]? = some oi) (hns : Region.noSelect ops = true) (hQ : ∀ c a w, Q (.panic c) (a.put oi.dst v) w → Q (.panic c) a w)
    (hig : i ≠ g) (hcl : closedDep ops dep i = true) (hg : g ∈ dep) (hT : ∀ w, S w → T w) : ∀ (n : Nat) (l : Array Bool) (a : Act) (w : World),
     (∀ j oj, ops[j]? = some oj → j ≠ i → l.getD j true = false → (∀ e ∈ oj.after, Region.binds .any e = true → e.on ≠ i) → oi.apart ops oj = true) →
     i ∈ Region.ready .any ops l → YieldsIf P ops T oi v a → (l.getD g true = false → S w) → T w → (∀ j ∈ dep, l.getD j true = false) →
     anyU P ops Q S g n (l.setIfInBounds i true) (a.put oi.dst v) w → anyU P ops Q S g (n + 1) l a w := by
 have hsel := Region.noSelect_spec hns
 have here : ∀ (n : Nat) (l : Array Bool) (a : Act) (w : World), YieldsIf P ops T oi v a → (l.getD g true = false → S w) → T w → anyU P ops Q S g n (l.setIfInBounds i true) (a.put oi.dst v) w →
     wpOp P ops Q i (fun a' w' => ((l.setIfInBounds i true).getD g true = false → S w') ∧ anyU P ops Q S g n (l.setIfInBounds i true) a' w') a w := fun n l a w hy hS hTw H =>
  hy.wpOp hi hTw ⟨fun e => hS (by rwa [getD_set_ne true hig] at e), H⟩
 intro n
 induction n with
 | zero =>
  intro l a w _ hr hy hS hTw _ H
  refine ⟨fun h => absurd hr (by rw [h]; simp), fun j hj => ?_⟩
  by_cases e : j = i
  · subst e; exact here 0 l a w hy hS hTw H
  · exact absurd (ready_mono hj e) (by rw [H.1]; simp)
 | succ n ih =>
  intro l a w hf hr hy hS hTw hgl H
  refine ⟨fun h => absurd hr (by rw [h]; simp), fun j hj => ?_⟩
  by_cases e : j = i
  · subst e; exact here (n + 1) l a w hy hS hTw H
  · obtain ⟨hj0, oj, hoj, hall⟩ := mem_ready.1 hj
    have hi0 := (mem_ready.1 hr).1
    have hilt : i < l.size := by
     rcases Nat.lt_or_ge i l.size with h | h
     · exact h
     · simp [Array.getElem?_eq_none h] at hi0
    have nw : ∀ e ∈ oj.after, Region.binds .any e = true → e.on ≠ i := by
     intro x hx hb he
     have h1 := hall x hx hb
     rw [he] at h1
     simp [hilt] at h1 hi0
     rw [hi0] at h1
     cases h1
    have hjd : j ∉ dep := by
     intro hjd
     have h := List.all_eq_true.1 hcl j hjd
     rw [hoj] at h
     simp only [Array.any_eq_true', Bool.and_eq_true, Bool.or_eq_true, beq_iff_eq, List.contains_iff_mem] at h
     obtain ⟨x, hx, hb, hxe | hxe⟩ := h
     · exact nw x hx hb hxe
     · have h1 := hall x hx hb
       have h2 := hgl _ hxe
       rcases Nat.lt_or_ge x.on l.size with hlt | hge
       · simp [hlt] at h1 h2
         rw [h1] at h2
         cases h2
       · simp [Array.getElem?_eq_none hge] at h1
    have hjg : j ≠ g := fun e2 => hjd (e2 ▸ hg)
    have step := wpOp_putIf hoj (hf j oj hoj e hj0 nw) (fun cs b => hsel i oi cs b hi) (fun cs b => hsel j oj cs b hoj) hQ hy (H.2 j (ready_mono hj e))
    refine wpOp_mono (fun a' w' hk => ?_) step
    obtain ⟨hy', hS', hU⟩ := hk
    have ce : ((l.setIfInBounds i true).setIfInBounds j true) = ((l.setIfInBounds j true).setIfInBounds i true) := Array.setIfInBounds_comm _ _ (Ne.symm e)
    have hSj : (l.setIfInBounds j true).getD g true = false → S w' := fun h0 => hS' (by rw [ce, getD_set_ne true hig]; exact h0)
    have hTw' : T w' := hT w' (hSj (by rw [getD_set_ne true hjg]; exact hgl g hg))
    refine ⟨hSj, ih _ a' w' ?_ (ready_mono hr (Ne.symm e)) hy' hSj hTw' ?_ (by rw [← ce]; exact hU)⟩
    · intro k ok hk hki hk0 hno
      refine hf k ok hk hki ?_ hno
      by_cases hjk : j = k
      · subst hjk; exact hj0
      · rwa [getD_set_ne true hjk] at hk0
    · intro k hk
      have hjk : j ≠ k := fun e2 => hjd (e2 ▸ hk)
      rw [getD_set_ne true hjk]
      exact hgl k hk
theorem anyU_readT {i : Nat} {oi : Oper} {v : Value} {n : Nat} {l : Array Bool} {a : Act} {w : World} (dep : List Nat) (hig : i ≠ g) (hi : ops[i]? = some oi) (hns : Region.noSelect ops = true) (hf : Region.free .any ops l i = true)
    (hr : (Region.ready .any ops l).contains i = true) (hQ : ∀ c a w, Q (.panic c) (a.put oi.dst v) w → Q (.panic c) a w) (hcl : closedDep ops dep i = true) (hg : dep.contains g = true) (hgl : dep.all (fun j => l.getD j true == false) = true) (hy : YieldsIf P ops S oi v a) (hS : S w)
    (h : anyU P ops Q S g n (l.setIfInBounds i true) (a.put oi.dst v) w) : anyU P ops Q S g (n + 1) l a w :=
 anyU_firstT hi hns hQ hig hcl (by simpa using hg) (fun _ h => h) n l a w (Region.free_spec hi hf) (by simpa using hr) hy (fun _ => hS) hS (fun j hj => by simpa using List.all_eq_true.1 hgl j hj) h
def SeqU (P : Program) (ops : Array Oper) (Q : Exit → Act → World → Prop) (S : World → Prop) (g : Nat) : List (Nat × Nat) → Act → World → Prop
 | [], a, w => Q .normal a w
 | (k, i) :: ks, a, w => ∃ o os, ops.toList.drop i = o :: os ∧
  if k = 0 then ∃ v, YieldsIf P ops S o v a ∧ SeqU P ops Q S g ks (a.put o.dst v) w
  else if k = 1 then ∀ K : Act → World → Prop, Shut (∀ a w, S w → (S w → SeqU P ops Q S g ks a w) → K a w) → if Region.wanted o (yielded ops a.tmps) = true then Oper.wp P o a w K Q else K (a.put o.dst undef) w
  else ∀ K : Act → World → Prop, Shut (∀ a w, SeqU P ops Q S g ks a w → K a w) → if Region.wanted o (yielded ops a.tmps) = true then Oper.wp P o a w K Q else K (a.put o.dst undef) w
def depsOf (ops : Array Oper) (i : Nat) : List Nat := (List.range ops.size).foldl (fun d j => match ops[j]? with | some o => if o.after.any (fun e => Region.binds .any e && (e.on == i || d.contains e.on)) then d ++ [j] else d | none => d) []
def seqUOk (ops : Array Oper) (g : Nat) : List (Nat × Nat) → Array Bool → Bool
 | [], l => Region.ready .any ops l == []
 | (k, i) :: ks, l =>
  (if k = 0 then (i != g) && (Region.free .any ops l i && ((Region.ready .any ops l).contains i && (closedDep ops (depsOf ops i) i && ((depsOf ops i).contains g && (depsOf ops i).all (fun j => l.getD j true == false)))))
   else if k = 1 then (Region.ready .any ops l == [i])
   else (Region.ready .any ops l == [i]) && (l.setIfInBounds i true).getD g true) && seqUOk ops g ks (l.setIfInBounds i true)
theorem seqU_sound (hs : Region.noSelect ops = true) (hQ : ∀ c (a : Act) (d : Option Tmp) (v : Value) w, Q (.panic c) (a.put d v) w → Q (.panic c) a w) :
    ∀ (ks : List (Nat × Nat)) (l : Array Bool) (a : Act) (w : World), seqUOk ops g ks l = true → (l.getD g true = false → S w) → SeqU P ops Q S g ks a w → anyU P ops Q S g ks.length l a w
 | [], _, a, w, hk, _, h => anyU_done (by simpa [seqUOk] using hk) h
 | (k, i) :: ks, l, a, w, hk, hS, h => by
  obtain ⟨o, os, h0, h⟩ := h
  have h1 : ops[i]? = some o := by
   rw [← Array.getElem?_toList]
   have := List.getElem?_drop (xs := ops.toList) (i := i) (j := 0)
   rw [h0] at this
   simpa using this.symm
  rw [seqUOk, Bool.and_eq_true] at hk
  by_cases k0 : k = 0
  · rw [if_pos k0] at h hk
    obtain ⟨v, hy, h⟩ := h
    simp only [Bool.and_eq_true] at hk
    obtain ⟨⟨a1, a2, a3, a4, a5, a6⟩, a7⟩ := hk
    have hgl : l.getD g true = false := by
     have := List.all_eq_true.1 a6 g (by simpa using a5)
     simpa using this
    exact anyU_readT (depsOf ops i) (by simpa using a1) h1 hs a2 a3 (fun c a w => hQ c a _ _ w) a4 a5 a6 hy (hS hgl) (seqU_sound hs hQ ks _ _ _ a7 (fun _ => hS hgl) h)
  · rw [if_neg k0] at h hk
    by_cases k1 : k = 1
    · rw [if_pos k1] at h hk
      simp only [beq_iff_eq] at hk
      refine anyU_next (rs := [i]) hk.1 (by simp) (NextU.cons h1 (fun K hK => ?_) NextU.nil)
      exact h K fun a w hS2 hW => hK.out a w hS2 fun hS3 => seqU_sound hs hQ ks _ _ _ hk.2 (fun _ => hS3) (hW hS3)
    · rw [if_neg k1] at h hk
      simp only [Bool.and_eq_true, beq_iff_eq] at hk
      refine anyU_next (rs := [i]) hk.1.1 (by simp) (NextU.free hk.1.2 h1 (fun K hK => ?_) NextU.nil)
      exact h K fun a w hW => hK.out a w (seqU_sound hs hQ ks _ _ _ hk.2 (fun e => by rw [hk.1.2] at e; cases e) hW)
theorem SeqU.take {i : Nat} {ks : List (Nat × Nat)} {o : Oper} {os : List Oper} {a : Act} {w : World} {v : Value} (hi : ops.toList.drop i = o :: os) (hw : Region.wanted o (yielded ops a.tmps) = true) (hy : ∀ w, S w → (execOp a.eval o).run P w = .ok (.value v) w) (h : SeqU P ops Q S g ks (a.put o.dst v) w) : SeqU P ops Q S g ((0, i) :: ks) a w := ⟨o, os, hi, by rw [if_pos rfl]; exact ⟨v, .inl ⟨hw, hy⟩, h⟩⟩
theorem SeqU.call {i : Nat} {ks : List (Nat × Nat)} {o : Oper} {os : List Oper} {a : Act} {w : World} (hi : ops.toList.drop i = o :: os) (h : ∀ K : Act → World → Prop, Shut (∀ a w, S w → (S w → SeqU P ops Q S g ks a w) → K a w) → if Region.wanted o (yielded ops a.tmps) = true then Oper.wp P o a w K Q else K (a.put o.dst undef) w) : SeqU P ops Q S g ((1, i) :: ks) a w := ⟨o, os, hi, by rw [if_neg (by decide), if_pos rfl]; exact h⟩
theorem SeqU.last {i : Nat} {ks : List (Nat × Nat)} {o : Oper} {os : List Oper} {a : Act} {w : World} (hi : ops.toList.drop i = o :: os) (h : ∀ K : Act → World → Prop, Shut (∀ a w, SeqU P ops Q S g ks a w → K a w) → if Region.wanted o (yielded ops a.tmps) = true then Oper.wp P o a w K Q else K (a.put o.dst undef) w) : SeqU P ops Q S g ((2, i) :: ks) a w := ⟨o, os, hi, by rw [if_neg (by decide), if_neg (by decide)]; exact h⟩
theorem SeqU.done {a : Act} {w : World} (h : Q .normal a w) : SeqU P ops Q S g [] a w := h
theorem wp_region_until {id : Nat} {a : Act} {w : World} (g : Nat) (ks : List (Nat × Nat)) (hm : P.follows .mixedOrders = true) (hs : Region.noSelect ops = true) (hk : seqUOk ops g ks (Array.replicate ops.size false) = true) (hl : ks.length = ops.size)
    (hQ : ∀ c (a : Act) (d : Option Tmp) (v : Value) w, Q (.panic c) (a.put d v) w → Q (.panic c) a w) (hS : S w.drew) (h : S w.drew → SeqU P ops Q S g ks a w.drew) : (Code.region id ops true).wp P Q a w :=
 region_until (g := g) (S := S) hm (by
  have := seqU_sound hs hQ ks _ a w.drew hk (fun _ => hS) (h hS)
  rwa [hl] at this)
end
end Go.Proofs.YtkiljcbejmiioaaGreat
