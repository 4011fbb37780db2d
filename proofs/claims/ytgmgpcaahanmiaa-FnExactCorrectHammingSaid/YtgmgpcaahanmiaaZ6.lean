/-
  Rows in memory of which each has a property (that it is another than some slice): a row replaced, rows exchanged, a row changed in place.
-/
import Derived.BigQuiet
import Derived.Deep.DeepMust
import Derived.Deep.Draws
import Derived.Deep.OwnRows
import Derived.Deep.QuietTactic
import Derived.Lib.Hide
import Derived.Maps.AppendAt
import Derived.Test.YtgmgpcaahanmiaaProg
import Derived.WalkKit
import Derived.WalkLawsBesides
import Derived.WalkSpells
import Derived.Test.YtgmgpcaahanmiaaZ1
import Derived.Test.YtgmgpcaahanmiaaZ2
set_option linter.unusedVariables false
set_option linter.unusedSimpArgs false
namespace Go.Proofs.Ytgmgpcaahanmiaa
open Go.RowKit

def OwnSQ (w : World) (B : Nat) (v : Value) (xss : List (List Int)) (Q : Value → Prop) : Prop :=
  xss.length ≤ 1073741824 ∧ ∃ vs : List Value, w.ownsRow B 22 1 v xss.length vs ∧ Inner w B vs xss ∧ ∀ (i : Nat) (x : Value), vs[i]? = some x → Q x
section
variable {w w' : World} {B hi g n c : Nat} {v : Value} {yss : List (List Int)} {Q Q' : Value → Prop}
theorem OwnSQ.own (h : OwnSQ w B v yss Q) : OwnS w B v yss := by
  obtain ⟨hl, vs, hr, hin, _⟩ := h
  exact ⟨hl, vs, hr, hin⟩
theorem OwnSQ.imp (h : OwnSQ w B v yss Q) (hq : ∀ x, (∀ k, x.ownBlock = some k → k < w.heap.size) → Q x → Q' x) : OwnSQ w B v yss Q' := by
  obtain ⟨hl, vs, hr, hin, hQ⟩ := h
  exact ⟨hl, vs, hr, hin, fun i x hx => hq x (fun k hk => ((hin.2.1 i x hx).lt k hk).2) (hQ i x hx)⟩
theorem OwnS.toQ (h : OwnS w B v yss) (hq : ∀ x, (∀ k, x.ownBlock = some k → B ≤ k ∧ k < w.heap.size) → Q x) : OwnSQ w B v yss Q := by
  obtain ⟨hl, vs, hr, hin⟩ := h
  exact ⟨hl, vs, hr, hin, fun i x hx => hq x (fun k hk => (hin.2.1 i x hx).lt k hk)⟩
theorem OwnSQ.below (h : OwnSQ w B v yss Q) (hb : Below w.heap.size w w') : OwnSQ w' B v yss Q := by
  obtain ⟨hl, vs, hr, hin, hQ⟩ := h
  exact ⟨hl, vs, ownsRow_below hr hb (Nat.le_refl _), hin.below hb (Nat.le_refl _), hQ⟩
/-- Another slice of integers has grown. -/
theorem OwnSQ.grow (h : OwnSQ w B v yss Q) {u : Value} {B' : Nat} {us : List Int} (hu : Own w B' u us) (hg : w.grownBy w' u.ownBlock) (hq : ∀ x, Q x → ∀ k, x.ownBlock = some k → u.ownBlock ≠ some k) : OwnSQ w' B v yss Q := by
  obtain ⟨hl, vs, hr, hin, hQ⟩ := h
  refine ⟨hl, vs, hr.kept hg ?_, ⟨hin.1, fun i x hx => (hin.2.1 i x hx).grow hg ?_, hin.2.2⟩, hQ⟩
  · rcases hub : u.ownBlock with _ | k
    · rcases hv : v.ownBlock with _ | k
      · exact .inl rfl
      · exact .inr (by simp)
    · refine .inr fun e => ?_
      exact Own.notSliceBlock hr hu k hub e
  · rcases hxb : x.ownBlock with _ | k
    · exact .inl rfl
    · exact .inr fun e => hq x (hQ i x hx) k hxb e.symm
theorem OwnSQ.row (h : OwnSQ w B v yss Q) {i : Nat} (hi : i < yss.length) :
    ∃ a c, Own w B (.slice a (nthL yss i).length c) (nthL yss i) ∧ Q (.slice a (nthL yss i).length c) ∧
      (∀ b off m d, v = .slice (some ⟨b, off, none⟩) m d → w.cell? ⟨b, off + i, none⟩ = some (.slice a (nthL yss i).length c)) ∧
      (∀ w' ys, Own w' B (.slice a (nthL yss i).length c) ys → ys.length = (nthL yss i).length → w.grownBy w' (Value.ownBlock (.slice a (nthL yss i).length c)) → OwnSQ w' B v (yss.set i ys) Q) ∧
      (∀ j a' c', j < yss.length → j ≠ i → (∀ b off m d, v = .slice (some ⟨b, off, none⟩) m d → w.cell? ⟨b, off + j, none⟩ = some (.slice a' (nthL yss j).length c')) → v.ownBlock ≠ none → ∀ k, Value.ownBlock (.slice a' (nthL yss j).length c') = some k → Value.ownBlock (.slice a (nthL yss i).length c) ≠ some k) := by
  obtain ⟨hl, vs, hr, hin, hQ⟩ := h
  have hil : i < vs.length := by rw [hin.1]; exact hi
  have hgi := List.getElem?_eq_getElem hil
  have ho := hin.2.1 i _ hgi
  obtain ⟨a, c, e, _, _⟩ := ho.form
  rw [e] at ho hgi
  have hne : ∀ k, Value.ownBlock (.slice a (nthL yss i).length c) = some k → v.ownBlock ≠ some k := Own.notSliceBlock hr ho
  have cellv : ∀ (q : Nat) (b off m d : Nat), q < vs.length → v = .slice (some ⟨b, off, none⟩) m d → w.cell? ⟨b, off + q, none⟩ = vs[q]? := by
    intro q b off m d hq hvv
    have hr2 := hr
    rcases hr.2 with ⟨rfl, _⟩ | ⟨g, cap, cur, rfl, _⟩
    · injection hvv with h0 _ _; cases h0
    · injection hvv with h0 _ _
      injection h0 with h0
      injection h0 with h1 h2
      subst h1; subst h2
      rw [Nat.zero_add]
      exact hr2.cellAt q (by have := hin.1; omega)
  refine ⟨a, c, ho, hQ i _ hgi, fun b off m d hvv => by rw [cellv i b off m d hil hvv, hgi], ?_, ?_⟩
  · intro w' ys ho' hyl hg
    refine ⟨by simpa using hl, vs, ?_, ⟨by simpa using hin.1, fun j x hx => ?_, hin.2.2⟩, hQ⟩
    · rw [List.length_set]
      refine hr.kept hg ?_
      rcases hx : v.ownBlock with _ | k
      · exact .inl rfl
      · exact .inr fun e2 => hne k e2.symm hx
    · by_cases hj : j = i
      · subst hj
        rw [hgi] at hx
        injection hx with hx
        subst hx
        rw [nthL_set_same hi]
        exact ho'
      · rw [nthL_set_ne (Ne.symm hj)]
        refine (hin.2.1 j x hx).grow hg ?_
        rcases hxb : x.ownBlock with _ | k
        · exact .inl rfl
        · exact .inr fun e2 => hin.2.2 i j _ _ k (Ne.symm hj) hgi hx e2.symm hxb
  · intro j a' c' hj hji hcell hv0 k hk hk2
    have hjl : j < vs.length := by rw [hin.1]; exact hj
    rcases hr.2 with ⟨rfl, h0⟩ | ⟨g, cap, cur, rfl, _⟩
    · exact hv0 rfl
    · have h1 := hcell g 0 _ _ rfl
      rw [cellv j g 0 _ _ hjl rfl] at h1
      exact hin.2.2 i j _ _ k (Ne.symm hji) hgi h1 hk2 hk
/-- A row of later blocks takes the place of a row. -/
theorem OwnSQ.put (h : OwnSQ w B (.slice (some ⟨g, 0, none⟩) n c) yss Q) {r : Value} {ys : List Int} (hr : Own w hi r ys) (hB : B ≤ hi)
    (hlow : ∀ x, Q x → ∀ k, x.ownBlock = some k → k < hi) (hq : Q' r) (hQQ : ∀ x, Q x → Q' x) {j : Nat} (hj : j < yss.length) :
    OwnSQ (w.setCell ⟨g, j, none⟩ r) B (.slice (some ⟨g, 0, none⟩) n c) (yss.set j ys) Q' ∧ w.grownBy (w.setCell ⟨g, j, none⟩ r) (some g) := by
  have e := h.own.len
  subst e
  obtain ⟨hl, vs, ho, hin, hQ⟩ := h
  obtain ⟨h1, h2⟩ := ho.stored j r
  have row : ∀ (x : Value) (B2 : Nat) (xs : List Int), Own w B2 x xs → Own (w.setCell ⟨g, j, none⟩ r) B2 x xs := fun x B2 xs hx => row_grow ho h2 hx
  have cas : ∀ (q : Nat) (z : Value), (vs.set j r)[q]? = some z → (q = j ∧ z = r) ∨ (q ≠ j ∧ vs[q]? = some z) := fun q z hz => by
    by_cases e : q = j
    · subst e
      rw [List.getElem?_set_self (by rw [hin.1]; exact hj)] at hz
      injection hz with hz
      exact .inl ⟨rfl, hz.symm⟩
    · rw [List.getElem?_set_ne (Ne.symm e)] at hz
      exact .inr ⟨e, hz⟩
  refine ⟨⟨by simpa using hl, vs.set j r, by rw [List.length_set]; exact h1, ⟨by simp [hin.1], fun i x hx => ?_, fun i k x y b hik hx hy hxb hyb => ?_⟩, fun i x hx => ?_⟩, h2⟩
  · rcases cas i x hx with ⟨rfl, rfl⟩ | ⟨e1, e2⟩
    · rw [nthL_set_same hj]; exact (row _ _ _ hr).mono hB
    · rw [nthL_set_ne (Ne.symm e1)]; exact row _ _ _ (hin.2.1 i x e2)
  · rcases cas i x hx with ⟨e1, e2⟩ | ⟨e1, e2⟩ <;> rcases cas k y hy with ⟨f1, f2⟩ | ⟨f1, f2⟩
    · omega
    · subst e2
      have a1 := (hr.lt b hxb).1
      have a2 := hlow y (hQ k y f2) b hyb
      omega
    · subst f2
      have a1 := (hr.lt b hyb).1
      have a2 := hlow x (hQ i x e2) b hxb
      omega
    · exact hin.2.2 i k x y b hik e2 f2 hxb hyb
  · rcases cas i x hx with ⟨rfl, rfl⟩ | ⟨e1, e2⟩
    · exact hq
    · exact hQQ x (hQ i x e2)
/-- The row at i goes, the one at t takes its place, a row of later blocks comes to t. -/
theorem OwnSQ.put2 (h : OwnSQ w B (.slice (some ⟨g, 0, none⟩) n c) yss Q) {r y : Value} {ys : List Int} (hr : Own w hi r ys) (hB : B ≤ hi)
    (hlow : ∀ x, Q x → ∀ k, x.ownBlock = some k → k < hi) (hq : Q' r) (hQQ : ∀ x, Q x → Q' x) {i t : Nat} (hi' : i < yss.length) (ht : t < yss.length) (hy : w.cell? ⟨g, t, none⟩ = some y) :
    OwnSQ ((w.setCell ⟨g, i, none⟩ y).setCell ⟨g, t, none⟩ r) B (.slice (some ⟨g, 0, none⟩) n c) ((yss.set i (nthL yss t)).set t ys) Q' ∧ w.grownBy ((w.setCell ⟨g, i, none⟩ y).setCell ⟨g, t, none⟩ r) (some g) := by
  have e := h.own.len
  subst e
  obtain ⟨hl, vs, ho, hin, hQ⟩ := h
  have vy : vs[t]? = some y := by rw [← ho.cellAt t (by omega)]; exact hy
  obtain ⟨h1, h2⟩ := ho.stored i y
  obtain ⟨h3, h4⟩ := h1.stored t r
  have row : ∀ (z : Value) (B2 : Nat) (xs : List Int), Own w B2 z xs → Own ((w.setCell ⟨g, i, none⟩ y).setCell ⟨g, t, none⟩ r) B2 z xs := fun z B2 xs hz => row_grow h1 h4 (row_grow ho h2 hz)
  have hil : i < vs.length := by rw [hin.1]; exact hi'
  have htl : t < vs.length := by rw [hin.1]; exact ht
  have cas : ∀ (q : Nat) (z : Value), ((vs.set i y).set t r)[q]? = some z → (q = t ∧ z = r) ∨ ∃ q', vs[q']? = some z ∧ q ≠ t ∧ ((q = i ∧ q' = t) ∨ (q ≠ i ∧ q' = q)) := fun q z hz => by
    by_cases e : q = t
    · subst e
      rw [List.getElem?_set_self (by rw [List.length_set]; exact htl)] at hz
      injection hz with hz
      exact .inl ⟨rfl, hz.symm⟩
    · rw [List.getElem?_set_ne (Ne.symm e)] at hz
      by_cases e2 : q = i
      · subst e2
        rw [List.getElem?_set_self hil] at hz
        injection hz with hz
        subst hz
        exact .inr ⟨t, vy, e, .inl ⟨rfl, rfl⟩⟩
      · rw [List.getElem?_set_ne (Ne.symm e2)] at hz
        exact .inr ⟨q, hz, e, .inr ⟨e2, rfl⟩⟩
  refine ⟨⟨by simpa using hl, (vs.set i y).set t r, by simpa using h3, ⟨by simp [hin.1], fun q z hz => ?_, fun q k z u b hqk hz hu hzb hub => ?_⟩, fun q z hz => ?_⟩, grown_trans_row h2 h4⟩
  · rcases cas q z hz with ⟨rfl, rfl⟩ | ⟨q', hq, hne, hc⟩
    · rw [nthL_set_same (by rw [List.length_set]; exact ht)]
      exact (row _ _ _ hr).mono hB
    · have o := row _ _ _ (hin.2.1 q' z hq)
      rcases hc with ⟨rfl, rfl⟩ | ⟨h1, rfl⟩
      · rw [nthL_set_ne (Ne.symm hne), nthL_set_same hi']; exact o
      · rw [nthL_set_ne (Ne.symm hne), nthL_set_ne (Ne.symm h1)]; exact o
  · rcases cas q z hz with ⟨rfl, rfl⟩ | ⟨q', hqv, hne, hc⟩ <;> rcases cas k u hu with ⟨rfl, rfl⟩ | ⟨k', hk, hke, hd⟩
    · omega
    · have a1 := (hr.lt b hzb).1
      have a2 := hlow u (hQ k' u hk) b hub
      omega
    · have a1 := (hr.lt b hub).1
      have a2 := hlow z (hQ q' z hqv) b hzb
      omega
    · exact hin.2.2 q' k' z u b (by omega) hqv hk hzb hub
  · rcases cas q z hz with ⟨rfl, rfl⟩ | ⟨q', hq', _, _⟩
    · exact hq
    · exact hQQ z (hQ q' z hq')
/-- Two rows exchanged. -/
theorem OwnSQ.swap (h : OwnSQ w B (.slice (some ⟨g, 0, none⟩) n c) yss Q) {i j : Nat} (hi : i < yss.length) (hj : j < yss.length) (hij : i ≠ j) {x y : Value} (hx : w.cell? ⟨g, i, none⟩ = some x) (hy : w.cell? ⟨g, j, none⟩ = some y) :
    OwnSQ ((w.setCell ⟨g, i, none⟩ y).setCell ⟨g, j, none⟩ x) B (.slice (some ⟨g, 0, none⟩) n c) ((yss.set i (nthL yss j)).set j (nthL yss i)) Q ∧ w.grownBy ((w.setCell ⟨g, i, none⟩ y).setCell ⟨g, j, none⟩ x) (some g) := by
  have e := h.own.len
  subst e
  obtain ⟨hl, vs, ho, hin, hQ⟩ := h
  have vx : vs[i]? = some x := by rw [← ho.cellAt i (by omega)]; exact hx
  have vy : vs[j]? = some y := by rw [← ho.cellAt j (by omega)]; exact hy
  obtain ⟨h1, h2⟩ := ho.stored i y
  obtain ⟨h3, h4⟩ := h1.stored j x
  have row : ∀ (z : Value) (B2 : Nat) (xs : List Int), Own w B2 z xs → Own ((w.setCell ⟨g, i, none⟩ y).setCell ⟨g, j, none⟩ x) B2 z xs := fun z B2 xs hz => row_grow h1 h4 (row_grow ho h2 hz)
  have hil : i < vs.length := by rw [hin.1]; exact hi
  have hjl : j < vs.length := by rw [hin.1]; exact hj
  have cas : ∀ (q : Nat) (z : Value), ((vs.set i y).set j x)[q]? = some z → ∃ q', vs[q']? = some z ∧ ((q = j ∧ q' = i) ∨ (q = i ∧ q ≠ j ∧ q' = j) ∨ (q ≠ i ∧ q ≠ j ∧ q' = q)) := fun q z hz => by
    by_cases e : q = j
    · subst e
      rw [List.getElem?_set_self (by rw [List.length_set]; exact hjl)] at hz
      injection hz with hz
      subst hz
      exact ⟨i, vx, .inl ⟨rfl, rfl⟩⟩
    · rw [List.getElem?_set_ne (Ne.symm e)] at hz
      by_cases e2 : q = i
      · subst e2
        rw [List.getElem?_set_self hil] at hz
        injection hz with hz
        subst hz
        exact ⟨j, vy, .inr (.inl ⟨rfl, e, rfl⟩)⟩
      · rw [List.getElem?_set_ne (Ne.symm e2)] at hz
        exact ⟨q, hz, .inr (.inr ⟨e2, e, rfl⟩)⟩
  refine ⟨⟨by simpa using hl, (vs.set i y).set j x, by simpa using h3, ⟨by simp [hin.1], fun q z hz => ?_, fun q k z u b hqk hz hu hzb hub => ?_⟩, fun q z hz => ?_⟩, grown_trans_row h2 h4⟩
  · obtain ⟨q', hq, hc⟩ := cas q z hz
    have o := row _ _ _ (hin.2.1 q' z hq)
    rcases hc with ⟨rfl, rfl⟩ | ⟨rfl, hne, rfl⟩ | ⟨h1, h2, rfl⟩
    · rw [nthL_set_same (by rw [List.length_set]; exact hj)]; exact o
    · rw [nthL_set_ne (Ne.symm hne), nthL_set_same hi]; exact o
    · rw [nthL_set_ne (Ne.symm h2), nthL_set_ne (Ne.symm h1)]; exact o
  · obtain ⟨q', hq, hc⟩ := cas q z hz
    obtain ⟨k', hk, hd⟩ := cas k u hu
    exact hin.2.2 q' k' z u b (by omega) hq hk hzb hub
  · obtain ⟨q', hq, _⟩ := cas q z hz
    exact hQ q' z hq
end
end Go.Proofs.Ytgmgpcaahanmiaa

/-
  Walk of l19Field; the code of MakeField.
-/
namespace Go.Proofs.Ytgmgpcaahanmiaa
open Go.RowKit

theorem l19Field_any (q : Int) (w : World) : Calls Try.prog 161 #[.int .i64 q] w fun e w' => e = .returned (.bool (isField q)) ∧ w = w' := by
  have hc := l03Split_any q w
  unfold isField
  generalize hs : (split q).1 = s at hc
  have HC := hide hc
  clear hc hs
  by_cases h0 : 0 < s
  · go_enter Try.func161, Try.ntmps161
    go_wp2_with fail
    refine (unhide HC).mono ?_
    rintro e w1 ⟨rfl, rfl⟩
    go_wp2
    go_ret
    exact ⟨ret_bool (by simp [h0]), rfl⟩
  · go_enter Try.func161, Try.ntmps161
    go_wp2_with fail
    refine (unhide HC).mono ?_
    rintro e w1 ⟨rfl, rfl⟩
    go_wp2
    go_ret
    exact ⟨ret_bool (by simp [show ¬ 0 < s by omega]), rfl⟩

theorem mkF_code (q : Int) : (mkF q).2.2.2 = if isField q then 0 else 2 := by unfold mkF; split <;> rfl
theorem mkF_ok {q : Int} (h : isField q = true) : (mkF q).2.2.2 = 0 := by rw [mkF_code, if_pos h]
theorem mkF_bad {q : Int} (h : isField q = false) : (mkF q).2.2.2 = 2 := by rw [mkF_code, h]; rfl

end Go.Proofs.Ytgmgpcaahanmiaa

/-
  Walks of l19Power, l19Space, isSpace.
-/
namespace Go.Proofs.Ytgmgpcaahanmiaa
open Go.RowKit

/-- The bound of the spaces. -/
def LIM : Int := 1000000000000
/-- A power, or -1 where it passes the bound. -/
def powS (b : Int) (m : Nat) : Int := if capTo b LIM m ≤ LIM then capTo b LIM m else -1
theorem powS_yes {b : Int} {m : Nat} (h : capTo b LIM m ≤ LIM) : powS b m = capTo b LIM m := if_pos h
theorem powS_no {b : Int} {m : Nat} (h : ¬ capTo b LIM m ≤ LIM) : powS b m = -1 := if_neg h
theorem capTo_anti {b l : Int} {j k : Nat} (hjk : j ≤ k) (h : capTo b l k ≤ l) : capTo b l j ≤ l := by
  rcases Int.lt_or_le l (capTo b l j) with h1 | h1
  · have := capTo_stop (b := b) (l := l) (k := j) (by omega) k hjk
    omega
  · exact h1

set_option maxHeartbeats 400000 in
theorem l19Power_any (b m : Int) (w : World) (hb : 0 ≤ b) (hb2 : b ≤ 1000) (hm : m ≤ 9223372036854775807) :
    Calls Try.prog 163 #[.int .i64 b, .int .i64 m] w fun e w' => e = .returned (.int .i64 (powS b m.toNat)) ∧ w = w' := by
  go_enter Try.func163, Try.ntmps163
  go_wp2
  go_loop [5, 6] (fun ov iv => ∃ (i : Nat) (o : Int), iv = .int .i64 i ∧ ov = .int .i64 o ∧ 0 ≤ o ∧ o ≤ 1000000000000 ∧ Hid (i ≤ m.toNat) ∧ (i : Int) ≤ 9223372036854775807 ∧ Hid (capTo b LIM i = o)) (fun _ iv => (m - intOf iv).toNat)
  case atStart => exact ⟨0, 1, rfl, rfl, by omega, by omega, Nat.zero_le _, by omega, rfl⟩
  case round =>
    obtain ⟨i, o, rfl, rfl, ho0, ho1, hi, hi2, hc⟩ := hrel
    by_cases him : (i : Int) < m
    · have hp0 : 0 ≤ o * b := Int.mul_nonneg ho0 hb
      have hp1 : o * b ≤ 1000000000000000 := by
        have := Int.mul_le_mul ho1 hb2 hb (by omega)
        omega
      have hc1 : capTo b LIM (i + 1) = o * b := by rw [capTo_go (by rw [hc.out]; unfold LIM; exact ho1), hc.out]
      have HC := Lib.hid hc1
      clear hc1 hc
      by_cases hl : o * b ≤ 1000000000000
      · go_wp2
        go_round
        case rel => exact ⟨i + 1, o * b, by go_num, rfl, hp0, hl, show _ ≤ _ by omega, by omega, HC⟩
        case measure => simp only [intOf]; omega
      · go_wp2
        go_ret
        have hst := capTo_stop (b := b) (l := LIM) (k := i + 1) (by rw [HC.out]; unfold LIM; omega) m.toNat (by have := hi.out; omega)
        refine ⟨ret_int ?_, rfl⟩
        rw [powS_no]
        rw [hst, HC.out]
        unfold LIM
        omega
    · go_wp2
      go_ret
      have e : i = m.toNat := by have := hi.out; omega
      refine ⟨ret_int ?_, rfl⟩
      rw [← e, powS_yes (by rw [hc.out]; unfold LIM; exact ho1), hc.out]

/-- There is a field of the size q, and not too many vectors of the length n. -/
def isSpaceB (q n : Int) : Bool := isField q && (inB n 1 32 && decide (capTo q LIM n.toNat ≤ LIM))

set_option maxHeartbeats 400000 in
theorem isSpace_any (q n : Int) (w : World) :
    Calls Try.prog 147 #[.int .i64 q, .int .i64 n] w fun e w' => e = .returned (.bool (isSpaceB q n)) ∧ Below w.heap.size w w' := by
  generalize hR : isSpaceB q n = R
  have HR := Lib.hid hR
  clear hR
  go_enter Try.func147, Try.ntmps147
  go_wp2_with fail
  refine (MakeField_any q w).mono ?_
  rintro e w1 ⟨v1, rfl, o1, b1⟩
  obtain ⟨a1, c1, rfl, _, _⟩ := o1.form
  have s1 := b1.size
  have hb := b1.alloc s1 (.cells #[.int .i64 (mkF q).1, .int .i64 (mkF q).2.1, .slice a1 (mkF q).2.2.1.length c1] 34)
  rcases hf : isField q with _ | _
  · rw [mkF_bad hf]
    have HF := Lib.hid hf
    clear hf
    go_wp2
    go_ret
    exact ⟨ret_bool (by rw [← HR.out, isSpaceB, HF.out]; rfl), hb⟩
  · rw [mkF_ok hf]
    obtain ⟨hq2, hq64, _⟩ := isField_size hf
    have HF := Lib.hid hf
    clear hf
    go_wp2_with fail
    refine (within_any n 1 32 _).mono ?_
    rintro e w2 ⟨rfl, rfl⟩
    rcases hk : inB n 1 32 with _ | _
    · have HK := Lib.hid hk
      clear hk
      go_wp2
      go_ret
      exact ⟨ret_bool (by rw [← HR.out, isSpaceB, HF.out, HK.out]; rfl), hb⟩
    · obtain ⟨hk1, hk8⟩ := inB_true.1 hk
      have HK := Lib.hid hk
      clear hk
      go_wp2_with fail
      refine (powerUpTo_any q n 1000000000000 _ (by omega) (by omega) (by omega) (by omega) (by omega)).mono ?_
      rintro e w2 ⟨rfl, rfl⟩
      have hr : R = decide (capTo q LIM n.toNat ≤ LIM) := by rw [← HR.out, isSpaceB, HF.out, HK.out]; rfl
      have HRR := Lib.hid hr
      clear hr
      by_cases hl : capTo q 1000000000000 n.toNat ≤ 1000000000000
      · go_wp2
        go_ret
        exact ⟨ret_bool (by rw [HRR.out]; unfold LIM; simp [hl]), hb⟩
      · go_wp2
        go_ret
        exact ⟨ret_bool (by rw [HRR.out]; unfold LIM; simp), hb⟩

theorem isSpaceB_true {q n : Int} (h : isSpaceB q n = true) : isField q = true ∧ 1 ≤ n ∧ n ≤ 32 ∧ capTo q LIM n.toNat ≤ LIM := by
  simp only [isSpaceB, Bool.and_eq_true, decide_eq_true_eq] at h
  obtain ⟨h1, h2, h3⟩ := h
  obtain ⟨h4, h5⟩ := inB_true.1 h2
  exact ⟨h1, h4, h5, h3⟩

end Go.Proofs.Ytgmgpcaahanmiaa

/-
  A block known whole is kept where another row has grown.
-/
namespace Go.Proofs.Ytgmgpcaahanmiaa
open Go.RowKit
theorem Blk.grown {w w' : World} {g : Nat} {t : TypeId} {cs : Array Value} {row : Option Nat} (h : Blk w g t cs) (hg : w.grownBy w' row) (hne : row ≠ some g) : Blk w' g t cs := (hg.block g h.lt (Ne.symm hne)).trans h
end Go.Proofs.Ytgmgpcaahanmiaa

/-
  Walks: marks on rows, fields, codes; what is held of them.
-/
namespace Go.Proofs.Ytgmgpcaahanmiaa
open Go.RowKit

theorem markH_any (B hi : Nat) (v : Value) (k : Int) (xs : List Int) (w : World) (hx : OwnH w B hi v xs) (hB : B ≤ w.heap.size) (hk0 : 0 ≤ k) (hk1 : k ≤ 9000000000000000000) :
    Calls Try.prog 18 #[v, .int .i64 k] w fun e w' => e = .returned (.int .i64 (k + xs.length)) ∧ OwnH w' B hi v (marked k xs.length) ∧ w.grownBy w' v.ownBlock ∧ Mk w w' B hi := by
  refine (markInt64S_any v k xs B w hx.1 hk0 hk1).mono ?_
  rintro e w' ⟨rfl, ho, hg⟩
  exact ⟨rfl, ⟨ho, hx.2⟩, hg, Mk.grown hg hx.2 hB⟩

/-- i rows of xss marked from k on. -/
def mkTo (k : Int) (xss : List (List Int)) (i : Nat) : List (List Int) := (markS k (xss.map List.length)).take i ++ xss.drop i
theorem mkTo_len (k : Int) (xss : List (List Int)) {i : Nat} (hi : i ≤ xss.length) : (mkTo k xss i).length = xss.length := by
  rw [mkTo, List.length_append, List.length_take, markS_len, List.length_map, List.length_drop]; omega
theorem mkTo_next {k : Int} {xss : List (List Int)} {i : Nat} (hi : i < xss.length) : nthL (mkTo k xss i) i = nthL xss i := by
  rw [mkTo, nthL, List.getD_eq_getElem?_getD, List.getElem?_append_right (by rw [List.length_take, markS_len, List.length_map]; omega), List.length_take, markS_len, List.length_map, Nat.min_eq_left (by omega), Nat.sub_self, List.getElem?_drop, ← List.getD_eq_getElem?_getD]
  rfl
theorem mkTo_succ {k : Int} {xss : List (List Int)} {i : Nat} (hi : i < xss.length) : (mkTo k xss i).set i (marked (k + (((xss.map List.length).take i).sum : Nat)) (nthL xss i).length) = mkTo k xss (i + 1) := by
  have hm := markS_nth k (xss.map List.length) i (by simpa using hi)
  have hl : (xss.map List.length).getD i 0 = (nthL xss i).length := by simp [nthL, List.getD_eq_getElem?_getD, hi]
  rw [hl] at hm
  have hlen : i < (markS k (xss.map List.length)).length := by rw [markS_len]; simpa using hi
  rw [mkTo, mkTo, List.set_append_right _ _ (by rw [List.length_take, markS_len, List.length_map]; omega), List.length_take, markS_len, List.length_map, Nat.min_eq_left (by omega), Nat.sub_self, ← hm, List.drop_eq_getElem_cons hi, List.set_cons_zero, take_nthL hlen, List.append_assoc]
  rfl
theorem lens_take (xss : List (List Int)) {i : Nat} (hi : i < xss.length) : ((xss.map List.length).take (i + 1)).sum = ((xss.map List.length).take i).sum + (nthL xss i).length := by
  rw [sum_take_succ _ (by simpa using hi)]
  congr 1
  simp [nthL, List.getD_eq_getElem?_getD, hi]

set_option maxHeartbeats 800000 in
theorem markSS_any (B hi : Nat) (a : Option Addr) (n c : Nat) (k : Int) (xss : List (List Int)) (w : World) (hn : n = xss.length) (hx : OwnSH w B hi (.slice a n c) xss) (hB : B ≤ w.heap.size) (hk0 : 0 ≤ k) (hk1 : k + ((xss.map List.length).sum : Nat) ≤ 9000000000000000000) :
    Calls Try.prog 158 #[.slice a n c, .int .i64 k] w fun e w' => e = .returned (.int .i64 (k + ((xss.map List.length).sum : Nat))) ∧ OwnSH w' B hi (.slice a n c) (markS k (xss.map List.length)) ∧ Mk w w' B hi := by
  have hxl := hx.1
  subst hn
  go_enter Try.func158, Try.ntmps158
  go_wp2
  go_loopw [1, 5] (fun kv iv wr => ∃ (i s : Nat), iv = .int .i64 i ∧ kv = .int .i64 (k + s) ∧ i ≤ xss.length ∧ Hid (s = ((xss.map List.length).take i).sum) ∧ Hid (OwnSH wr B hi (.slice a xss.length c) (mkTo k xss i)) ∧ Hid (Mk w wr B hi)) (fun _ iv _ => xss.length - (intOf iv).toNat)
  case atStart => exact ⟨0, 0, rfl, by simp, Nat.zero_le _, by show _ = _; simp, hx, Mk.refl _ _ _⟩
  case round =>
    obtain ⟨i, s, rfl, rfl, hiL, hs, ho, hm⟩ := hrel
    by_cases hil : i < xss.length
    · have hsz := hm.out.size
      have hlen := mkTo_len k xss (i := i) (by omega)
      obtain ⟨ar, cr, hrow, hcell, hput⟩ := ho.out.row (i := i) (by rw [hlen]; exact hil)
      obtain ⟨b, off, rfl, hb, hc⟩ := ho.out.rd.at_ (by rw [hlen]; omega)
      have h1 := hcell b off _ _ rfl
      rw [mkTo_next hil] at h1 hrow hput
      obtain ⟨row, hrw⟩ : ∃ row, row = nthL xss i := ⟨_, rfl⟩
      have hst := lens_take xss hil
      have hts := sum_take_le (xss.map List.length) (i + 1)
      rw [← hrw] at h1 hrow hput hst
      have hmk := fun W h hB => markH_any B hi (.slice ar row.length cr) (k + s) row W h hB (by omega) (by have := hs.out; omega)
      have HMK := hide hmk
      have HST := Lib.hid hst
      have HRW := Lib.hid hrw
      have HLEN := Lib.hid hlen
      have hxl2 := hs
      clear hmk hcell hc hst hrw hts hlen
      go_wp2_with fail
      refine (unhide HMK wr hrow (by omega)).mono ?_
      rintro e w1 ⟨rfl, o1, g1, m1⟩
      have hres := hput w1 (marked (k + s) row.length) o1 (by rw [marked_len]) g1
      rw [hs.out, HRW.out, mkTo_succ hil] at hres
      have HRES := Lib.hid hres
      clear hres hput
      have hmm := hm.out.trans m1
      go_wp2_with fail
      go_roundw
      case rel => exact ⟨i + 1, s + row.length, by go_num, (by congr 1; omega), by omega, by show _ = _; rw [HST.out, hs.out], HRES.out, hmm⟩
      case measure => simp only [intOf]; omega
    · have hie : i = xss.length := by omega
      have HI := Lib.hid hie
      clear hie
      go_wp2
      go_ret
      have e1 := HI.out
      have e2 := hs.out
      have e3 := ho.out
      rw [e1, List.take_of_length_le (by simp)] at e2
      rw [e1, mkTo, List.take_of_length_le (by rw [markS_len]; simp), List.drop_length, List.append_nil] at e3
      exact ⟨ret_int (by rw [e2]), e3, hm.out⟩

set_option maxHeartbeats 800000 in
theorem heldSS_any (a : Option Addr) (n c : Nat) (k : Int) (ls : List Nat) (w : World) (hn : n = ls.length) (hx : RdS w a (markS k ls)) (hk0 : 0 ≤ k) (hk1 : k + (ls.sum : Nat) ≤ 9000000000000000000) :
    Calls Try.prog 160 #[.slice a n c, .int .i64 k] w fun e w' => e = .returned (.int .i64 (k + (ls.sum : Nat))) ∧ w = w' := by
  have hxl := hx.len
  rw [markS_len] at hxl
  subst hn
  go_enter Try.func160, Try.ntmps160
  go_wp2
  go_loop [1, 5] (fun kv iv => ∃ (i s : Nat), iv = .int .i64 i ∧ kv = .int .i64 (k + s) ∧ i ≤ ls.length ∧ Hid (s = (ls.take i).sum)) (fun _ iv => ls.length - (intOf iv).toNat)
  case atStart => exact ⟨0, 0, rfl, by simp, Nat.zero_le _, by show _ = _; simp⟩
  case round =>
    obtain ⟨i, s, rfl, rfl, hi, hs⟩ := hrel
    by_cases hil : i < ls.length
    · obtain ⟨b, off, rfl, hb, hc⟩ := hx.at_ (by rw [markS_len]; omega)
      obtain ⟨ai, ci, h1, hr⟩ := hc i (by rw [markS_len]; exact hil)
      have hst := sum_take_succ ls hil
      have hts := sum_take_le ls (i + 1)
      have hss := hs.out
      rw [markS_nth k ls i hil, ← hss] at h1 hr
      rw [marked_len] at h1
      generalize hm : ls.getD i 0 = m at h1 hr hst
      have hh := fun W h => heldInt64S_marked ai ci m (k + s) W h (by omega) (by omega)
      have HH := hide hh
      have HST := Lib.hid hst
      have hm0 : 0 ≤ k + (s : Int) + (m : Int) := by omega
      clear hh hst hts hss hm hc hx
      go_wp2_with fail
      refine (unhide HH w hr).mono ?_
      rintro e w1 ⟨rfl, rfl⟩
      have hlt : decide (k + (s : Int) + (m : Int) < 0) = false := by rw [decide_eq_false_iff_not]; omega
      go_wp2_with fail
      go_round
      case rel => exact ⟨i + 1, s + m, by go_num, (by congr 1; omega), by omega, by show _ = _; rw [HST.out, hs.out]⟩
      case measure => simp only [intOf]; omega
    · have hie : i = ls.length := by omega
      have HI := Lib.hid hie
      clear hie
      go_wp2
      go_ret
      have e1 := HI.out
      have e2 := hs.out
      rw [e1, List.take_of_length_le (Nat.le_refl _)] at e2
      exact ⟨ret_int (by rw [e2]), rfl⟩

theorem markField_any (B hi : Nat) (p d : Int) (a : Option Addr) (n c : Nat) (k : Int) (xs : List Int) (w : World) (hn : n = xs.length) (hx : OwnH w B hi (.slice a n c) xs) (hB : B ≤ w.heap.size) (hh : hi ≤ w.heap.size) (hk0 : 0 ≤ k) (hk1 : k ≤ 9000000000000000000) :
    Calls Try.prog 74 #[.agg #[.int .i64 p, .int .i64 d, .slice a n c], .int .i64 k] w fun e w' => e = .returned (.int .i64 (k + xs.length)) ∧ OwnH w' B hi (.slice a n c) (marked k xs.length) ∧ Mk w w' B hi := by
  subst hn
  obtain ⟨w0, hw0⟩ : ∃ w0, w0 = w.alloc (.cells #[.int .i64 p, .int .i64 d, .slice a xs.length c] 34) := ⟨_, rfl⟩
  have hb0 : Below w.heap.size w w0 := by rw [hw0]; exact (Below.refl _ _).alloc (Nat.le_refl _) _
  have k0 : Blk w0 w.heap.size 34 #[.int .i64 p, .int .i64 d, .slice a xs.length c] := by rw [hw0]; exact Blk.new _ _ _ rfl
  have s0 : w0.heap.size = w.heap.size + 1 := by rw [hw0]; simp
  have HW := Lib.hid hw0
  clear hw0
  have f2 : w0.cell? ⟨w.heap.size, 2, none⟩ = some (.slice a xs.length c) := k0.cell 2
  have hm := markH_any B hi (.slice a xs.length c) k xs w0 (hx.kp (Kp.below hb0 hh)) (by omega) hk0 hk1
  have HM := hide hm
  have h1 : 0 ≤ k + (xs.length : Int) := by omega
  clear hm
  go_enter Try.func74, Try.ntmps74
  go_wp2_with fail
  rw [← HW.out]
  refine (unhide HM).mono ?_
  rintro e w1 ⟨rfl, o1, g1, m1⟩
  go_wp2
  go_ret
  exact ⟨rfl, o1, (Mk.alloc hb0 hB).trans m1⟩

theorem markCode_any (B hi : Nat) (p d : Int) (a b : Option Addr) (n m c cb : Nat) (k : Int) (xs : List Int) (xss : List (List Int)) (w : World) (hn : n = xs.length) (hm : m = xss.length) (hx : OwnCH w B hi (.slice a n c) (.slice b m cb) xs xss) (hB : B ≤ w.heap.size) (hh : hi ≤ w.heap.size) (hk0 : 0 ≤ k) (hk1 : k + xs.length + ((xss.map List.length).sum : Nat) ≤ 9000000000000000000) :
    Calls Try.prog 76 #[.agg #[.int .i64 p, .int .i64 d, .slice a n c, .slice b m cb], .int .i64 k] w fun e w' => e = .returned (.int .i64 (k + xs.length + ((xss.map List.length).sum : Nat))) ∧ OwnCH w' B hi (.slice a n c) (.slice b m cb) (marked k xs.length) (markS (k + xs.length) (xss.map List.length)) ∧ Mk w w' B hi := by
  subst hn
  subst hm
  obtain ⟨M, hM1, hM2, hxF, hxS⟩ := hx
  obtain ⟨w0, hw0⟩ : ∃ w0, w0 = w.alloc (.cells #[.int .i64 p, .int .i64 d, .slice a xs.length c, .slice b xss.length cb] 37) := ⟨_, rfl⟩
  have hb0 : Below w.heap.size w w0 := by rw [hw0]; exact (Below.refl _ _).alloc (Nat.le_refl _) _
  have k0 : Blk w0 w.heap.size 37 #[.int .i64 p, .int .i64 d, .slice a xs.length c, .slice b xss.length cb] := by rw [hw0]; exact Blk.new _ _ _ rfl
  have s0 : w0.heap.size = w.heap.size + 1 := by rw [hw0]; simp
  have HW := Lib.hid hw0
  clear hw0
  have f0 : w0.cell? ⟨w.heap.size, 0, none⟩ = some (.int .i64 p) := k0.cell 0
  have f1 : w0.cell? ⟨w.heap.size, 1, none⟩ = some (.int .i64 d) := k0.cell 1
  have f2 : w0.cell? ⟨w.heap.size, 2, none⟩ = some (.slice a xs.length c) := k0.cell 2
  have hF := markField_any B M p d a xs.length c k xs w0 rfl (hxF.kp (Kp.below hb0 (by omega))) (by omega) (by omega) hk0 (by omega)
  have HF := hide hF
  clear hF
  go_enter Try.func76, Try.ntmps76
  go_wp2_with fail
  rw [← HW.out]
  refine (unhide HF).mono ?_
  rintro e w1 ⟨rfl, o1, m1⟩
  have s1 := m1.size
  have hS := markSS_any M hi b xss.length cb (k + xs.length) xss w1 rfl (hxS.kp ((Kp.below hb0 hh).trans (m1.kp (.inr (Nat.le_refl _)) (by omega)))) (by omega) (by omega) (by omega)
  have k1 := k0.kp (m1.kp (.inr (by omega)) (by omega))
  have f3 : w1.cell? ⟨w.heap.size, 3, none⟩ = some (.slice b xss.length cb) := k1.cell 3
  have HS := hide hS
  have h1 : 0 ≤ k + (xs.length : Int) := by omega
  clear hS f0 f1 f2
  go_wp2_with fail
  refine (unhide HS).mono ?_
  rintro e w2 ⟨rfl, o2, m2⟩
  go_wp2
  go_ret
  exact ⟨rfl, ⟨M, hM1, hM2, o1.kp (m2.kp (.inl (Nat.le_refl _)) (by omega)), o2⟩, ((Mk.alloc hb0 hB).trans (m1.wide (Nat.le_refl _) hM2)).trans (m2.wide hM1 (Nat.le_refl _))⟩

theorem heldField_any (p d : Int) (a : Option Addr) (n c : Nat) (k : Int) (w : World) (hx : Rd w a (marked k n)) (hk0 : 0 ≤ k) (hk1 : k ≤ 9000000000000000000) :
    Calls Try.prog 159 #[.agg #[.int .i64 p, .int .i64 d, .slice a n c], .int .i64 k] w fun e w' => e = .returned (.int .i64 (k + n)) ∧ Below w.heap.size w w' := by
  have hl := hx.len
  rw [marked_len] at hl
  obtain ⟨w0, hw0⟩ : ∃ w0, w0 = w.alloc (.cells #[.int .i64 p, .int .i64 d, .slice a n c] 34) := ⟨_, rfl⟩
  have hb0 : Below w.heap.size w w0 := by rw [hw0]; exact (Below.refl _ _).alloc (Nat.le_refl _) _
  have k0 : Blk w0 w.heap.size 34 #[.int .i64 p, .int .i64 d, .slice a n c] := by rw [hw0]; exact Blk.new _ _ _ rfl
  have s0 : w0.heap.size = w.heap.size + 1 := by rw [hw0]; simp
  have HW := Lib.hid hw0
  clear hw0
  have f2 : w0.cell? ⟨w.heap.size, 2, none⟩ = some (.slice a n c) := k0.cell 2
  have hm := heldInt64S_marked a c n k w0 (hx.below hb0) hk0 hk1
  have HM := hide hm
  have h1 : 0 ≤ k + (n : Int) := by omega
  have h2 : decide (k + (n : Int) < 0) = false := by rw [decide_eq_false_iff_not]; omega
  clear hm
  go_enter Try.func159, Try.ntmps159
  go_wp2_with fail
  rw [← HW.out]
  refine (unhide HM).mono ?_
  rintro e w1 ⟨rfl, rfl⟩
  go_wp2
  go_ret
  exact ⟨rfl, hb0⟩

theorem heldCode_any (p d : Int) (a b : Option Addr) (n m c cb : Nat) (k : Int) (ls : List Nat) (w : World) (hm : m = ls.length) (hx : Rd w a (marked k n)) (hs : RdS w b (markS (k + n) ls)) (hk0 : 0 ≤ k) (hk1 : k + n + (ls.sum : Nat) ≤ 9000000000000000000) :
    Calls Try.prog 77 #[.agg #[.int .i64 p, .int .i64 d, .slice a n c, .slice b m cb], .int .i64 k] w fun e w' => e = .returned (.int .i64 (k + n + (ls.sum : Nat))) ∧ Below w.heap.size w w' := by
  subst hm
  have hl := hx.len
  rw [marked_len] at hl
  obtain ⟨w0, hw0⟩ : ∃ w0, w0 = w.alloc (.cells #[.int .i64 p, .int .i64 d, .slice a n c, .slice b ls.length cb] 37) := ⟨_, rfl⟩
  have hb0 : Below w.heap.size w w0 := by rw [hw0]; exact (Below.refl _ _).alloc (Nat.le_refl _) _
  have k0 : Blk w0 w.heap.size 37 #[.int .i64 p, .int .i64 d, .slice a n c, .slice b ls.length cb] := by rw [hw0]; exact Blk.new _ _ _ rfl
  have s0 : w0.heap.size = w.heap.size + 1 := by rw [hw0]; simp
  have HW := Lib.hid hw0
  clear hw0
  have f0 : w0.cell? ⟨w.heap.size, 0, none⟩ = some (.int .i64 p) := k0.cell 0
  have f1 : w0.cell? ⟨w.heap.size, 1, none⟩ = some (.int .i64 d) := k0.cell 1
  have f2 : w0.cell? ⟨w.heap.size, 2, none⟩ = some (.slice a n c) := k0.cell 2
  have hF := heldField_any p d a n c k w0 (hx.below hb0) hk0 (by omega)
  have HF := hide hF
  have h1 : 0 ≤ k + (n : Int) := by omega
  have h2 : decide (k + (n : Int) < 0) = false := by rw [decide_eq_false_iff_not]; omega
  have h3 : 0 ≤ k + (n : Int) + ((ls.sum : Nat) : Int) := by omega
  have h4 : decide (k + (n : Int) + ((ls.sum : Nat) : Int) < 0) = false := by rw [decide_eq_false_iff_not]; omega
  clear hF
  go_enter Try.func77, Try.ntmps77
  go_wp2_with fail
  rw [← HW.out]
  refine (unhide HF).mono ?_
  rintro e w1 ⟨rfl, b1⟩
  have k1 := k0.below b1 k0.lt
  have f3 : w1.cell? ⟨w.heap.size, 3, none⟩ = some (.slice b ls.length cb) := k1.cell 3
  have hS := heldSS_any b ls.length cb (k + n) ls w1 rfl ((hs.below hb0).below b1) (by omega) (by omega)
  have HS := hide hS
  clear hS f0 f1 f2
  go_wp2_with fail
  refine (unhide HS).mono ?_
  rintro e w2 ⟨rfl, rfl⟩
  go_wp2
  go_ret
  exact ⟨rfl, hb0.trans (b1.mono (by omega))⟩
end Go.Proofs.Ytgmgpcaahanmiaa

