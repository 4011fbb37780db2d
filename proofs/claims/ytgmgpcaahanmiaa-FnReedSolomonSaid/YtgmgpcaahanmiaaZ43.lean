/-
  Law: one row that is only read appended to rows of the call's own.
-/
import Derived.BigQuiet
import Derived.Deep.DeepMust
import Derived.Deep.Draws
import Derived.Deep.OwnRows
import Derived.Deep.QuietTactic
import Derived.Lib.Hide
import Derived.Maps.AppendAt
import Derived.Test.YtgmgpcaahanmiaaProg
import Derived.WalkKit
import Derived.WalkLawsBesides
import Derived.WalkSpells
import Derived.Test.YtgmgpcaahanmiaaZ1
set_option linter.unusedVariables false
set_option linter.unusedSimpArgs false
namespace Go.Proofs.Ytgmgpcaahanmiaa
open Go.RowKit

section
variable {w : World} {B hi : Nat} {v : Value} {xss : List (List Int)} {xs : List Int} {ar : Option Addr} {cr : Nat}
set_option maxRecDepth 100000 in
theorem run_append_read (hown : OwnSH w B hi v xss) (g1 : Nat) (hc : w.cell? ⟨g1, 0, none⟩ = some (.slice ar xs.length cr)) (hr : Rd w ar xs) (hrB : ∀ p, ar = some p → p.block < B) (hB : B ≤ w.heap.size) (hl : xss.length + 1 ≤ 1073741824) (ty : TypeId) :
    ∃ a' c' w', (Builtin.append_ #[35, 35] ty #[v, .slice (some ⟨g1, 0, none⟩) 1 1]).run Try.prog w = .ok (.slice a' (xss ++ [xs]).length c') w' ∧ RdS w' a' (xss ++ [xs]) ∧ Below B w w' := by
  obtain ⟨i0, hi0, hz0, hz1, hz2⟩ := info_parts Try.info_row
  obtain ⟨hxl, vs, hrow, hin, hv, hb⟩ := hown
  have hvB : ∀ k, v.ownBlock = some k → B ≤ k := fun k hk => (hv k hk).1
  obtain ⟨v', w', h1, h2, h3, _, h5⟩ := run_append_own_at (P := Try.prog) w B 35 ty 22 i0 (.slice none 0 0) 1 24 Try.underlying35 hi0 hz0 hz1 hz2 rfl (by omega) v xss.length vs hrow ⟨g1, 0, none⟩ 1 1 [.slice ar xs.length cr] rfl
    (fun j u hu => by
      have hj := (List.getElem?_eq_some_iff.1 hu).1
      simp at hj
      subst hj
      injection hu with hu
      subst hu
      rw [Addr.add_lit]; exact hc)
    (by intro u hu; rw [List.mem_singleton.1 hu]; rfl) (by unfold maxLen; omega) (by omega) (by omega)
  have hvl := hin.1
  have hbel : Below B w w' := (Below.refl B w).grown h3 hB hvB
  have grow : ∀ (x : Value) (B' : Nat) (zs : List Int), Own w B' x zs → Own w' B' x zs := fun x B' zs ho => ho.grow h3 (by
    rcases hxb : x.ownBlock with _ | k
    · exact .inl rfl
    · exact .inr fun e => Own.notSliceBlock hrow ho k hxb e.symm)
  have hrd : Rd w' ar xs := hr.grow h3 (fun p hp e => by have := hrB p hp; have := hvB p.block e.symm; omega)
  have h2' := h2
  rcases h2.2 with ⟨_, h0⟩ | ⟨g, cap, cur, rfl, _, hg, hn, hm, hs, ht⟩
  · simp at h0
  · have hlen : (xss ++ [xs]).length = xss.length + 1 := by simp
    refine ⟨some ⟨g, 0, none⟩, cap, w', by rw [h1, hlen], ⟨by rw [hlen]; exact hl, fun _ => ⟨g, 0, rfl, fun i hi => ?_⟩⟩, hbel⟩
    rw [hlen] at hi
    rw [Nat.zero_add, h2'.cellAt i (by simpa using hi)]
    by_cases hil : i < vs.length
    · have e : nthL (xss ++ [xs]) i = nthL xss i := by rw [nthL, nthL, List.getD_eq_getElem?_getD, List.getElem?_append_left (by omega), ← List.getD_eq_getElem?_getD]
      have ho := grow _ _ _ (hin.2.1 i vs[i] (List.getElem?_eq_getElem hil))
      obtain ⟨a, c, e2, hr2, _⟩ := ho.form
      rw [List.getElem?_append_left hil, List.getElem?_eq_getElem hil, e]
      exact ⟨a, c, by rw [← e2], hr2⟩
    · obtain rfl : i = vs.length := by omega
      have e : nthL (xss ++ [xs]) vs.length = xs := by simp [nthL, hvl]
      rw [e]
      exact ⟨ar, cr, by simp, hrd⟩
theorem wpList_append_read {ops : Array Oper} {rest : List Oper} {o : Oper} {a : Act} {Q : Exit → Act → World → Prop} (hgd : o.guard = none) (s x : Operand)
    (ho : o.op = .call { callee := .builtin .append, args := #[s, x], argTypes := #[35, 35] })
    (hs : a.eval s = v) (hown : OwnSH w B hi v xss) (g1 : Nat) (hx : a.eval x = .slice (some ⟨g1, 0, none⟩) 1 1) (hc : w.cell? ⟨g1, 0, none⟩ = some (.slice ar xs.length cr)) (hr : Rd w ar xs) (hrB : ∀ p, ar = some p → p.block < B) (hB : B ≤ w.heap.size) (hl : xss.length + 1 ≤ 1073741824)
    (h : ∀ a' c' w', RdS w' a' (xss ++ [xs]) → Below B w w' → wpList Try.prog ops Q rest (a.put o.dst (.slice a' (xss ++ [xs]).length c')) w') :
    wpList Try.prog ops Q (o :: rest) a w :=
  wpList_plain hgd fun K hK => by
    obtain ⟨a', c', w', hrun, h2, h3⟩ := run_append_read hown g1 hc hr hrB hB hl o.type
    unfold Oper.wp execOp
    simp only [ho, resolve, invoke, builtin, Sem.run_bind, Sem.run_pure, Result.andThen_ok, List.map_toArray, List.map_cons, List.map_nil, hs, hx, hrun]
    exact hK _ _ (h a' c' w' h2 h3)
end
end Go.Proofs.Ytgmgpcaahanmiaa

