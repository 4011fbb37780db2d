/-
  Texts joined.
-/
import Derived.Deep.RegionHeld3
import Derived.Test.YtohghnoihbjmcaaHD1
set_option linter.unusedVariables false
set_option linter.unusedSimpArgs false
set_option maxRecDepth 100000
set_option maxHeartbeats 40000000
namespace Go.Proofs.Ytohghnoihbjmcaa
open Go.RowKit
def anyU (P : Program) (ops : Array Oper) (Q : Exit → Act → World → Prop) (S : World → Prop) (g : Nat) : Nat → Array Bool → Act → World → Prop
 | 0, l, a, w => Region.ready .any ops l = [] ∧ Q .normal a w
 | n + 1, l, a, w => (Region.ready .any ops l = [] → Q .normal a w) ∧
     ∀ i ∈ Region.ready .any ops l, wpOp P ops Q i (fun a' w' => ((l.setIfInBounds i true).getD g true = false → S w') ∧ anyU P ops Q S g n (l.setIfInBounds i true) a' w') a w
section
variable {P : Program} {ops : Array Oper} {Q : Exit → Act → World → Prop} {S T : World → Prop} {g : Nat}
def NextU (P : Program) (ops : Array Oper) (Q : Exit → Act → World → Prop) (S : World → Prop) (g n : Nat) (l : Array Bool) (a : Act) (w : World) (rs : List Nat) : Prop :=
 ∀ i ∈ rs, wpOp P ops Q i (fun a' w' => ((l.setIfInBounds i true).getD g true = false → S w') ∧ anyU P ops Q S g n (l.setIfInBounds i true) a' w') a w
theorem NextU.nil {n : Nat} {l : Array Bool} {a : Act} {w : World} : NextU P ops Q S g n l a w [] := fun _ h => by cases h
theorem NextU.cons {n : Nat} {l : Array Bool} {a : Act} {w : World} {i : Nat} {o : Oper} {rs : List Nat} (ho : ops[i]? = some o)
    (h : ∀ K' : Act → World → Prop, Shut (∀ a w, S w → (S w → anyU P ops Q S g n (l.setIfInBounds i true) a w) → K' a w) → if Region.wanted o (yielded ops a.tmps) = true then Oper.wp P o a w K' Q else K' (a.put o.dst undef) w)
    (hs : NextU P ops Q S g n l a w rs) : NextU P ops Q S g n l a w (i :: rs) := fun j hj => by
 rcases List.mem_cons.1 hj with rfl | hj
 · exact wpOp_step ho (fun K' hK => h K' (fun a w h1 h2 => hK a w ⟨fun _ => h1, h2 h1⟩))
 · exact hs j hj
theorem NextU.free {n : Nat} {l : Array Bool} {a : Act} {w : World} {i : Nat} {o : Oper} {rs : List Nat} (hl : (l.setIfInBounds i true).getD g true = true) (ho : ops[i]? = some o)
    (h : ∀ K' : Act → World → Prop, Shut (∀ a w, anyU P ops Q S g n (l.setIfInBounds i true) a w → K' a w) → if Region.wanted o (yielded ops a.tmps) = true then Oper.wp P o a w K' Q else K' (a.put o.dst undef) w)
    (hs : NextU P ops Q S g n l a w rs) : NextU P ops Q S g n l a w (i :: rs) := fun j hj => by
 rcases List.mem_cons.1 hj with rfl | hj
 · exact wpOp_step ho (fun K' hK => h K' (fun a w h2 => hK a w ⟨fun e => (by rw [hl] at e; cases e), h2⟩))
 · exact hs j hj
end
end Go.Proofs.Ytohghnoihbjmcaa
namespace Go.Proofs.Ytohghnoihbjmcaa
open Go.RowKit
section
variable {P : Program} {ops : Array Oper} {Q : Exit → Act → World → Prop} {S T : World → Prop} {g : Nat}
def SeqU (P : Program) (ops : Array Oper) (Q : Exit → Act → World → Prop) (S : World → Prop) (g : Nat) : List (Nat × Nat) → Act → World → Prop
 | [], a, w => Q .normal a w
 | (k, i) :: ks, a, w => ∃ o os, ops.toList.drop i = o :: os ∧
  if k = 0 then ∃ v, YieldsIf P ops S o v a ∧ SeqU P ops Q S g ks (a.put o.dst v) w
  else if k = 1 then ∀ K : Act → World → Prop, Shut (∀ a w, S w → (S w → SeqU P ops Q S g ks a w) → K a w) → if Region.wanted o (yielded ops a.tmps) = true then Oper.wp P o a w K Q else K (a.put o.dst undef) w
  else ∀ K : Act → World → Prop, Shut (∀ a w, SeqU P ops Q S g ks a w → K a w) → if Region.wanted o (yielded ops a.tmps) = true then Oper.wp P o a w K Q else K (a.put o.dst undef) w
theorem SeqU.take {i : Nat} {ks : List (Nat × Nat)} {o : Oper} {os : List Oper} {a : Act} {w : World} {v : Value} (hi : ops.toList.drop i = o :: os) (hw : Region.wanted o (yielded ops a.tmps) = true) (hy : ∀ w, S w → (execOp a.eval o).run P w = .ok (.value v) w) (h : SeqU P ops Q S g ks (a.put o.dst v) w) : SeqU P ops Q S g ((0, i) :: ks) a w := ⟨o, os, hi, by rw [if_pos rfl]; exact ⟨v, .inl ⟨hw, hy⟩, h⟩⟩
theorem SeqU.call {i : Nat} {ks : List (Nat × Nat)} {o : Oper} {os : List Oper} {a : Act} {w : World} (hi : ops.toList.drop i = o :: os) (h : ∀ K : Act → World → Prop, Shut (∀ a w, S w → (S w → SeqU P ops Q S g ks a w) → K a w) → if Region.wanted o (yielded ops a.tmps) = true then Oper.wp P o a w K Q else K (a.put o.dst undef) w) : SeqU P ops Q S g ((1, i) :: ks) a w := ⟨o, os, hi, by rw [if_neg (by decide), if_pos rfl]; exact h⟩
theorem SeqU.done {a : Act} {w : World} (h : Q .normal a w) : SeqU P ops Q S g [] a w := h
end
end Go.Proofs.Ytohghnoihbjmcaa
