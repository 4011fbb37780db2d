/-
  Texts joined.
-/
import Derived.Deep.RegionHeld3

set_option linter.unusedVariables false
set_option linter.unusedSimpArgs false
set_option maxRecDepth 100000
set_option maxHeartbeats 40000000
namespace Go.Proofs.YtkiljcbejmiioaaGreat
section
variable {P : Program} {md : Region.Mode} {ops : Array Oper} {Q : Exit → Act → World → Prop} {S : World → Prop}
def SeqH (P : Program) (ops : Array Oper) (Q : Exit → Act → World → Prop) (S : World → Prop) : List Bool → List Oper → Act → World → Prop
 | [], [], a, w => Q .normal a w
 | true :: ks, o :: os, a, w => ∃ v, YieldsIf P ops S o v a ∧ SeqH P ops Q S ks os (a.put o.dst v) w
 | false :: ks, o :: os, a, w => ∀ K : Act → World → Prop, Shut (∀ a w, S w → (S w → SeqH P ops Q S ks os a w) → K a w) → if Region.wanted o (yielded ops a.tmps) = true then Oper.wp P o a w K Q else K (a.put o.dst undef) w
 | _, _, _, _ => False
def seqOk (md : Region.Mode) (ops : Array Oper) : List Bool → Nat → Array Bool → Bool
 | [], _, listed => Region.ready md ops listed == []
 | true :: ks, i, listed => Region.free md ops listed i && ((Region.ready md ops listed).contains i && seqOk md ops ks (i + 1) (listed.setIfInBounds i true))
 | false :: ks, i, listed => (Region.ready md ops listed == [i]) && seqOk md ops ks (i + 1) (listed.setIfInBounds i true)
theorem SeqH.take {ks : List Bool} {o : Oper} {os : List Oper} {a : Act} {w : World} {v : Value} (hw : Region.wanted o (yielded ops a.tmps) = true) (hy : ∀ w, S w → (execOp a.eval o).run P w = .ok (.value v) w) (h : SeqH P ops Q S ks os (a.put o.dst v) w) : SeqH P ops Q S (true :: ks) (o :: os) a w := ⟨v, .inl ⟨hw, hy⟩, h⟩
theorem SeqH.skip {ks : List Bool} {o : Oper} {os : List Oper} {a : Act} {w : World} (hw : Region.wanted o (yielded ops a.tmps) = false) (h : SeqH P ops Q S ks os (a.put o.dst undef) w) : SeqH P ops Q S (true :: ks) (o :: os) a w := ⟨undef, .inr ⟨hw, rfl⟩, h⟩
theorem SeqH.call {ks : List Bool} {o : Oper} {os : List Oper} {a : Act} {w : World} (h : ∀ K : Act → World → Prop, Shut (∀ a w, S w → (S w → SeqH P ops Q S ks os a w) → K a w) → if Region.wanted o (yielded ops a.tmps) = true then Oper.wp P o a w K Q else K (a.put o.dst undef) w) : SeqH P ops Q S (false :: ks) (o :: os) a w := h
theorem SeqH.done {a : Act} {w : World} (h : Q .normal a w) : SeqH P ops Q S [] [] a w := h
theorem drop_head {α : Type} {l : List α} {i : Nat} {x : α} {xs : List α} (h : l.drop i = x :: xs) : l[i]? = some x ∧ l.drop (i + 1) = xs := by
 constructor
 · have := List.getElem?_drop (xs := l) (i := i) (j := 0)
   rw [h] at this
   simpa using this.symm
 · rw [← List.drop_drop (i := 1) (j := i), h]
   rfl
theorem seq_sound (hs : Region.noSelect ops = true) (hQ : ∀ c (a : Act) (d : Option Tmp) (v : Value) w, Q (.panic c) (a.put d v) w → Q (.panic c) a w) :
    ∀ (ks : List Bool) (os : List Oper) (i : Nat) (listed : Array Bool) (a : Act) (w : World), ops.toList.drop i = os → seqOk md ops ks i listed = true → S w → SeqH P ops Q S ks os a w → wpAnyH P md ops Q S ks.length listed a w
 | [], [], _, _, a, w, _, hk, _, h => wpAnyH_done (by simpa [seqOk] using hk) h _
 | [], _ :: _, _, _, _, _, _, _, _, h => h.elim
 | true :: ks, [], _, _, _, _, _, _, _, h => h.elim
 | false :: ks, [], _, _, _, _, _, _, _, h => h.elim
 | true :: ks, o :: os, i, listed, a, w, hd, hk, hS, h => by
  obtain ⟨v, hy, h⟩ := h
  obtain ⟨h1, h2⟩ := drop_head hd
  simp only [seqOk, Bool.and_eq_true] at hk
  exact wpAnyH_take (i := i) (oi := o) (v := v) (by rw [← Array.getElem?_toList]; exact h1) hs hk.1 hk.2.1 (fun c a w => hQ c a _ _ w) hy hS (seq_sound hs hQ ks os (i + 1) _ _ _ h2 hk.2.2 hS h)
 | false :: ks, o :: os, i, listed, a, w, hd, hk, hS, h => by
  obtain ⟨h1, h2⟩ := drop_head hd
  simp only [seqOk, Bool.and_eq_true, beq_iff_eq] at hk
  refine wpAnyH_ready (rs := [i]) hk.1 (by simp) (AllReadyH.cons (o := o) (by rw [← Array.getElem?_toList]; exact h1) (fun K hK => ?_) AllReadyH.nil)
  exact h K fun a w hS2 hW => hK.out a w hS2 fun hS3 => seq_sound hs hQ ks os (i + 1) _ _ _ h2 hk.2 hS3 (hW hS3)
theorem wp_region_seq {id : Nat} {a : Act} {w : World} (ks : List Bool) (hm : P.follows .mixedOrders = true) (hs : Region.noSelect ops = true) (hk : seqOk .any ops ks 0 (Array.replicate ops.size false) = true) (hl : ks.length = ops.size)
    (hQ : ∀ c (a : Act) (d : Option Tmp) (v : Value) w, Q (.panic c) (a.put d v) w → Q (.panic c) a w) (hS : S w.drew) (h : S w.drew → SeqH P ops Q S ks ops.toList a w.drew) : (Code.region id ops true).wp P Q a w :=
 wp_region_held_drew hm hS fun hS => by
  have := seq_sound hs hQ ks ops.toList 0 _ a w.drew rfl hk hS (h hS)
  rwa [hl] at this
end
end Go.Proofs.YtkiljcbejmiioaaGreat
namespace Go.Proofs.YtkiljcbejmiioaaGreat
section
variable {P : Program} {md : Region.Mode} {ops : Array Oper} {Q : Exit → Act → World → Prop} {S : World → Prop}
def SeqO (P : Program) (ops : Array Oper) (Q : Exit → Act → World → Prop) (S : World → Prop) : List (Bool × Nat) → Act → World → Prop
 | [], a, w => Q .normal a w
 | (true, i) :: ks, a, w => ∃ o os v, ops.toList.drop i = o :: os ∧ YieldsIf P ops S o v a ∧ SeqO P ops Q S ks (a.put o.dst v) w
 | (false, i) :: ks, a, w => ∃ o os, ops.toList.drop i = o :: os ∧ ∀ K : Act → World → Prop, Shut (∀ a w, S w → (S w → SeqO P ops Q S ks a w) → K a w) → if Region.wanted o (yielded ops a.tmps) = true then Oper.wp P o a w K Q else K (a.put o.dst undef) w
def seqOkO (md : Region.Mode) (ops : Array Oper) : List (Bool × Nat) → Array Bool → Bool
 | [], listed => Region.ready md ops listed == []
 | (true, i) :: ks, listed => Region.free md ops listed i && ((Region.ready md ops listed).contains i && seqOkO md ops ks (listed.setIfInBounds i true))
 | (false, i) :: ks, listed => (Region.ready md ops listed == [i]) && seqOkO md ops ks (listed.setIfInBounds i true)
theorem SeqO.take {i : Nat} {ks : List (Bool × Nat)} {o : Oper} {os : List Oper} {a : Act} {w : World} {v : Value} (hi : ops.toList.drop i = o :: os) (hw : Region.wanted o (yielded ops a.tmps) = true) (hy : ∀ w, S w → (execOp a.eval o).run P w = .ok (.value v) w) (h : SeqO P ops Q S ks (a.put o.dst v) w) : SeqO P ops Q S ((true, i) :: ks) a w := ⟨o, os, v, hi, .inl ⟨hw, hy⟩, h⟩
theorem SeqO.skip {i : Nat} {ks : List (Bool × Nat)} {o : Oper} {os : List Oper} {a : Act} {w : World} (hi : ops.toList.drop i = o :: os) (hw : Region.wanted o (yielded ops a.tmps) = false) (h : SeqO P ops Q S ks (a.put o.dst undef) w) : SeqO P ops Q S ((true, i) :: ks) a w := ⟨o, os, undef, hi, .inr ⟨hw, rfl⟩, h⟩
theorem SeqO.call {i : Nat} {ks : List (Bool × Nat)} {o : Oper} {os : List Oper} {a : Act} {w : World} (hi : ops.toList.drop i = o :: os) (h : ∀ K : Act → World → Prop, Shut (∀ a w, S w → (S w → SeqO P ops Q S ks a w) → K a w) → if Region.wanted o (yielded ops a.tmps) = true then Oper.wp P o a w K Q else K (a.put o.dst undef) w) : SeqO P ops Q S ((false, i) :: ks) a w := ⟨o, os, hi, h⟩
theorem SeqO.done {a : Act} {w : World} (h : Q .normal a w) : SeqO P ops Q S [] a w := h
theorem seqO_sound (hs : Region.noSelect ops = true) (hQ : ∀ c (a : Act) (d : Option Tmp) (v : Value) w, Q (.panic c) (a.put d v) w → Q (.panic c) a w) :
    ∀ (ks : List (Bool × Nat)) (listed : Array Bool) (a : Act) (w : World), seqOkO md ops ks listed = true → S w → SeqO P ops Q S ks a w → wpAnyH P md ops Q S ks.length listed a w
 | [], _, a, w, hk, _, h => wpAnyH_done (by simpa [seqOkO] using hk) h _
 | (true, i) :: ks, listed, a, w, hk, hS, h => by
  obtain ⟨o, os, v, h0, hy, h⟩ := h
  have h1 : ops[i]? = some o := by rw [← Array.getElem?_toList]; exact (drop_head h0).1
  simp only [seqOkO, Bool.and_eq_true] at hk
  exact wpAnyH_take (i := i) (oi := o) (v := v) h1 hs hk.1 hk.2.1 (fun c a w => hQ c a _ _ w) hy hS (seqO_sound hs hQ ks _ _ _ hk.2.2 hS h)
 | (false, i) :: ks, listed, a, w, hk, hS, h => by
  obtain ⟨o, os, h0, h⟩ := h
  have h1 : ops[i]? = some o := by rw [← Array.getElem?_toList]; exact (drop_head h0).1
  simp only [seqOkO, Bool.and_eq_true, beq_iff_eq] at hk
  refine wpAnyH_ready (rs := [i]) hk.1 (by simp) (AllReadyH.cons (o := o) h1 (fun K hK => ?_) AllReadyH.nil)
  exact h K fun a w hS2 hW => hK.out a w hS2 fun hS3 => seqO_sound hs hQ ks _ _ _ hk.2 hS3 (hW hS3)
theorem wp_region_ord {id : Nat} {a : Act} {w : World} (ks : List (Bool × Nat)) (hm : P.follows .mixedOrders = true) (hs : Region.noSelect ops = true) (hk : seqOkO .any ops ks (Array.replicate ops.size false) = true) (hl : ks.length = ops.size)
    (hQ : ∀ c (a : Act) (d : Option Tmp) (v : Value) w, Q (.panic c) (a.put d v) w → Q (.panic c) a w) (hS : S w.drew) (h : S w.drew → SeqO P ops Q S ks a w.drew) : (Code.region id ops true).wp P Q a w :=
 wp_region_held_drew hm hS fun hS => by
  have := seqO_sound hs hQ ks _ a w.drew hk hS (h hS)
  rwa [hl] at this
end
end Go.Proofs.YtkiljcbejmiioaaGreat
