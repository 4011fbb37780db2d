/-
  Texts joined.
-/
import Derived.Test.YtgfcbmflnldicaaGreatBW1
set_option linter.unusedVariables false
set_option linter.unusedSimpArgs false
set_option maxRecDepth 100000
set_option maxHeartbeats 40000000
namespace Go.Proofs.YtgfcbmflnldicaaGreat
open Go.RowKit
theorem Kp.alloc {a b : World} {lo hi : Nat} (h : Kp a b lo hi) (s : hi ≤ b.heap.size) (o : Obj) : Kp a (b.alloc o) lo hi := h.trans (Kp.below ((Below.refl _ _).alloc (Nat.le_refl _) o) s)
theorem Kp.drew {a b : World} {lo hi : Nat} (h : Kp a b lo hi) : Kp a b.drew lo hi := h
theorem Kp.grown {a b c : World} {lo hi : Nat} {row : Option Nat} (h : Kp a b lo hi) (hg : b.grownBy c row) (hne : ∀ k, row = some k → k < lo ∨ hi ≤ k) (s : hi ≤ b.heap.size) : Kp a c lo hi :=
 h.trans ⟨hg.size, fun g h1 h2 => hg.block g (by omega) (fun e => by have := hne g e.symm; omega)⟩
theorem Kp.setCell {a b : World} {lo hi : Nat} (h : Kp a b lo hi) {p : Addr} (hp : p.block < lo ∨ hi ≤ p.block) (v : Value) : Kp a (b.setCell p v) lo hi :=
 ⟨by have := h.1; simpa using this, fun g h1 h2 => (Below.heap_setCell b p v g (by omega)).trans (h.2 g h1 h2)⟩
section
variable {w : World} {B hi : Nat} {v r : Value} {xss : List (List Int)} {xs : List Int}
theorem run_append_row (hown : OwnSH w B hi v xss) (g1 : Nat) (hc : w.cell? ⟨g1, 0, none⟩ = some r) (hr : Own w hi r xs) (hB : B ≤ hi) (hhi : hi ≤ w.heap.size) (hl : xss.length + 1 ≤ 1073741824) (ty : TypeId) :
    ∃ v' w', (Builtin.append_ #[42, 42] ty #[v, .slice (some ⟨g1, 0, none⟩) 1 1]).run Tryz.prog w = .ok v' w' ∧ OwnS w' B v' (xss ++ [xs]) ∧ w.grownBy w' v.ownBlock ∧ (v'.ownBlock = v.ownBlock ∨ v'.ownBlock = some w.heap.size) := by
 obtain ⟨i0, hi0, hz0, hz1, hz2⟩ := info_parts Tryz.info_row
 obtain ⟨hxl, vs, hrow, hin, hv, hb⟩ := hown
 obtain ⟨ar, cr, er, _, _⟩ := hr.form
 obtain ⟨v', w', h1, h2, h3, _, h5⟩ := run_append_own_at (P := Tryz.prog) w B 42 ty 24 i0 (.slice none 0 0) 1 24 Tryz.underlying42 hi0 hz0 hz1 hz2 rfl (by omega) v xss.length vs hrow ⟨g1, 0, none⟩ 1 1 [r] rfl
  (fun j u hu => by
   have hj := (List.getElem?_eq_some_iff.1 hu).1
   simp at hj
   subst hj
   injection hu with hu
   subst hu
   rw [Addr.add_lit]; exact hc)
  (by intro u hu; rw [List.mem_singleton.1 hu, er]; rfl) (by unfold maxLen; omega) (by omega) (by omega)
 refine ⟨v', w', h1, ⟨by simpa using hl, vs ++ [r], by simpa using h2, by simp [hin.1], fun i x hx => ?_, fun i j x y k hij hx hy hk => ?_⟩, h3, h5⟩
 · have grow : ∀ (x : Value) (B' : Nat) (zs : List Int), Own w B' x zs → Own w' B' x zs := fun x B' zs ho => ho.grow h3 (by
     rcases hxb : x.ownBlock with _ | k
     · exact .inl rfl
     · exact .inr fun e => Own.notSliceBlock hrow ho k hxb e.symm)
   rcases Nat.lt_or_ge i vs.length with hi' | hi'
   · rw [List.getElem?_append_left hi'] at hx
     have e : nthL (xss ++ [xs]) i = nthL xss i := by rw [nthL, nthL, List.getD_eq_getElem?_getD, List.getElem?_append_left (by have := hin.1; omega), ← List.getD_eq_getElem?_getD]
     rw [e]
     exact grow _ _ _ (hin.2.1 i x hx)
   · have h2 := (List.getElem?_eq_some_iff.1 hx).1
     simp at h2
     obtain rfl : i = vs.length := by omega
     simp at hx
     subst hx
     have e : nthL (xss ++ [xs]) vs.length = xs := by simp [nthL, hin.1]
     rw [e]
     exact (grow _ _ _ hr).mono hB
 · have old : ∀ (i : Nat) (y : Value) (k : Nat), i < vs.length → (vs ++ [r])[i]? = some y → y.ownBlock = some k → k < hi := fun i y k hi' hy hk => by
     rw [List.getElem?_append_left hi'] at hy
     exact (hb i y hy k hk).2
   have new : ∀ (i : Nat) (y : Value) (k : Nat), ¬ i < vs.length → (vs ++ [r])[i]? = some y → i = vs.length ∧ (y.ownBlock = some k → hi ≤ k) := fun i y k hi' hy => by
    have hi2 := (List.getElem?_eq_some_iff.1 hy).1
    simp at hi2
    obtain rfl : i = vs.length := by omega
    simp at hy
    subst hy
    exact ⟨rfl, fun hk => (hr.lt k hk).1⟩
   intro hyk
   by_cases h1 : i < vs.length <;> by_cases h2 : j < vs.length
   · rw [List.getElem?_append_left h1] at hx
     rw [List.getElem?_append_left h2] at hy
     exact hin.2.2 i j x y k hij hx hy hk hyk
   · have a1 := old i x k h1 hx hk
     have a2 := (new j y k h2 hy).2 hyk
     omega
   · have a1 := old j y k h2 hy hyk
     have a2 := (new i x k h1 hx).2 hk
     omega
   · have a1 := (new i x k h1 hx).1
     have a2 := (new j y k h2 hy).1
     omega
theorem wp_append_row {o : Oper} {a : Act} {K : Act → World → Prop} {Q : Exit → Act → World → Prop} (s x : Operand)
    (ho : o.op = .call { callee := .builtin .append, args := #[s, x], argTypes := #[42, 42] })
    (hs : a.eval s = v) (hown : OwnSH w B hi v xss) (g1 : Nat) (hx : a.eval x = .slice (some ⟨g1, 0, none⟩) 1 1) (hc : w.cell? ⟨g1, 0, none⟩ = some r) (hr : Own w hi r xs) (hB : B ≤ hi) (hhi : hi ≤ w.heap.size) (hl : xss.length + 1 ≤ 1073741824)
    (h : ∀ v' w', OwnS w' B v' (xss ++ [xs]) → w.grownBy w' v.ownBlock → (v'.ownBlock = v.ownBlock ∨ v'.ownBlock = some w.heap.size) → K (a.put o.dst v') w') : Oper.wp Tryz.prog o a w K Q := by
 obtain ⟨v', w', hrun, h2, h3, h4⟩ := run_append_row hown g1 hc hr hB hhi hl o.type
 unfold Oper.wp execOp
 simp only [ho, resolve, invoke, builtin, Sem.run_bind, Sem.run_pure, Result.andThen_ok, List.map_toArray, List.map_cons, List.map_nil, hs, hx, hrun]
 exact h v' w' h2 h3 h4
theorem wpList_append_row {ops : Array Oper} {rest : List Oper} {o : Oper} {a : Act} {Q : Exit → Act → World → Prop} (hgd : o.guard = none) (s x : Operand)
    (ho : o.op = .call { callee := .builtin .append, args := #[s, x], argTypes := #[42, 42] })
    (hs : a.eval s = v) (hown : OwnSH w B hi v xss) (g1 : Nat) (hx : a.eval x = .slice (some ⟨g1, 0, none⟩) 1 1) (hc : w.cell? ⟨g1, 0, none⟩ = some r) (hr : Own w hi r xs) (hB : B ≤ hi) (hhi : hi ≤ w.heap.size) (hl : xss.length + 1 ≤ 1073741824)
    (h : ∀ v' w', OwnS w' B v' (xss ++ [xs]) → w.grownBy w' v.ownBlock → (v'.ownBlock = v.ownBlock ∨ v'.ownBlock = some w.heap.size) → wpList Tryz.prog ops Q rest (a.put o.dst v') w') :
    wpList Tryz.prog ops Q (o :: rest) a w :=
 wpList_plain hgd fun _ hK => wp_append_row s x ho hs hown g1 hx hc hr hB hhi hl fun v' w' h2 h3 h4 => hK _ _ (h v' w' h2 h3 h4)
theorem step_append_row {ops : Array Oper} {o : Oper} {a : Act} {K : Act → World → Prop} {Q : Exit → Act → World → Prop} {E : Prop} (hgd : o.guard = none) (s x : Operand)
    (ho : o.op = .call { callee := .builtin .append, args := #[s, x], argTypes := #[42, 42] })
    (hs : a.eval s = v) (hown : OwnSH w B hi v xss) (g1 : Nat) (hx : a.eval x = .slice (some ⟨g1, 0, none⟩) 1 1) (hc : w.cell? ⟨g1, 0, none⟩ = some r) (hr : Own w hi r xs) (hB : B ≤ hi) (hhi : hi ≤ w.heap.size) (hl : xss.length + 1 ≤ 1073741824)
    (h : ∀ v' w', OwnS w' B v' (xss ++ [xs]) → w.grownBy w' v.ownBlock → (v'.ownBlock = v.ownBlock ∨ v'.ownBlock = some w.heap.size) → K (a.put o.dst v') w') :
    if Region.wanted o (yielded ops a.tmps) = true then Oper.wp Tryz.prog o a w K Q else E := by
 have hw : Region.wanted o (yielded ops a.tmps) = true := by simp [Region.wanted, hgd]
 rw [if_pos hw]
 exact wp_append_row s x ho hs hown g1 hx hc hr hB hhi hl h
end
end Go.Proofs.YtgfcbmflnldicaaGreat
namespace Go.Proofs.YtgfcbmflnldicaaGreat
open Go.RowKit
section
variable {w : World} {B hi g n c : Nat} {v : Value} {yss : List (List Int)}
theorem OwnS.row (h : OwnS w B v yss) {i : Nat} (hi : i < yss.length) :
    ∃ a c, Own w B (.slice a (nthL yss i).length c) (nthL yss i) ∧
     (∀ b off m d, v = .slice (some ⟨b, off, none⟩) m d → w.cell? ⟨b, off + i, none⟩ = some (.slice a (nthL yss i).length c)) ∧
     ∀ w' ys, Own w' B (.slice a (nthL yss i).length c) ys → ys.length = (nthL yss i).length → w.grownBy w' (Value.ownBlock (.slice a (nthL yss i).length c)) → OwnS w' B v (yss.set i ys) := by
 obtain ⟨a, c, h1, h2, h3⟩ := h.toH.row hi
 exact ⟨a, c, h1.1, h2, fun w' ys ho hl hg => (h3 w' ys ⟨ho, h1.2⟩ hl hg).own⟩
theorem OwnS.at_ (h : OwnS w B v yss) (h0 : 0 < yss.length) : ∃ g c, v = .slice (some ⟨g, 0, none⟩) yss.length c ∧ B ≤ g ∧ g < w.heap.size ∧ yss.length ≤ c ∧ c ≤ 9223372036854775807 := by
 obtain ⟨hl, vs, hr, hin⟩ := h
 rcases hr.2 with ⟨_, h1⟩ | ⟨g, cap, cur, rfl, hb, hg, hn, hm, hs, ht⟩
 · omega
 · unfold maxLen at hm
   exact ⟨g, cap, rfl, hb, (Array.getElem?_eq_some_iff.1 hg).1, hn, by omega⟩
theorem OwnS.frozen (h : OwnS w B (.slice (some ⟨g, 0, none⟩) n c) yss) (j : Nat) : w.frozen? ⟨g, j, none⟩ = false := by
 have e := h.len
 obtain ⟨hl, vs, hr, hin⟩ := h
 subst e
 exact hr.frozenAt j
theorem row_grow {w' : World} {m : Nat} {vs : List Value} {x : Value} {xs : List Int} (hr : w.ownsRow B 24 1 v m vs) (hg : w.grownBy w' v.ownBlock) {B2 : Nat} (ho : Own w B2 x xs) : Own w' B2 x xs :=
 ho.grow hg (by
  rcases hxb : x.ownBlock with _ | k
  · exact .inl rfl
  · exact .inr fun e => Own.notSliceBlock hr ho k hxb e.symm)
theorem nthL_set_same {xss : List (List Int)} {i : Nat} (h : i < xss.length) (v : List Int) : nthL (xss.set i v) i = v := by simp [nthL, h]
theorem nthL_set_ne {xss : List (List Int)} {i j : Nat} (h : i ≠ j) (v : List Int) : nthL (xss.set i v) j = nthL xss j := by
 simp [nthL, List.getD_eq_getElem?_getD, List.getElem?_set_ne h]
theorem OwnSH.put (h : OwnSH w B hi (.slice (some ⟨g, 0, none⟩) n c) yss) {r : Value} {ys : List Int} (hr : Own w hi r ys) (hB : B ≤ hi) {j : Nat} (hj : j < yss.length) :
    OwnS (w.setCell ⟨g, j, none⟩ r) B (.slice (some ⟨g, 0, none⟩) n c) (yss.set j ys) ∧ w.grownBy (w.setCell ⟨g, j, none⟩ r) (some g) := by
 have e := h.own.len
 subst e
 obtain ⟨hl, vs, ho, hin, hv, hb⟩ := h
 obtain ⟨h1, h2⟩ := ho.stored j r
 have row : ∀ (x : Value) (B2 : Nat) (xs : List Int), Own w B2 x xs → Own (w.setCell ⟨g, j, none⟩ r) B2 x xs := fun x B2 xs hx => row_grow ho h2 hx
 refine ⟨⟨by simpa using hl, vs.set j r, by rw [List.length_set]; exact h1, by simp [hin.1], fun i x hx => ?_, fun i k x y b hik hx hy hxb hyb => ?_⟩, h2⟩
 · by_cases e : i = j
   · subst e
     rw [List.getElem?_set_self (by rw [hin.1]; exact hj)] at hx
     injection hx with hx
     subst hx
     rw [nthL_set_same hj]
     exact (row _ _ _ hr).mono hB
   · rw [List.getElem?_set_ne (Ne.symm e)] at hx
     rw [nthL_set_ne (Ne.symm e)]
     exact row _ _ _ (hin.2.1 i x hx)
 · have cas : ∀ (q : Nat) (z : Value), (vs.set j r)[q]? = some z → (q = j ∧ z = r) ∨ (q ≠ j ∧ vs[q]? = some z) := fun q z hz => by
     by_cases e : q = j
     · subst e
       rw [List.getElem?_set_self (by rw [hin.1]; exact hj)] at hz
       injection hz with hz
       exact .inl ⟨rfl, hz.symm⟩
     · rw [List.getElem?_set_ne (Ne.symm e)] at hz
       exact .inr ⟨e, hz⟩
   rcases cas i x hx with ⟨e1, e2⟩ | ⟨e1, e2⟩ <;> rcases cas k y hy with ⟨f1, f2⟩ | ⟨f1, f2⟩
   · omega
   · subst e2
     have a1 := (hr.lt b hxb).1
     have a2 := (hb k y f2 b hyb).2
     omega
   · subst f2
     have a1 := (hr.lt b hyb).1
     have a2 := (hb i x e2 b hxb).2
     omega
   · exact hin.2.2 i k x y b hik e2 f2 hxb hyb
theorem OwnS.swap (h : OwnS w B (.slice (some ⟨g, 0, none⟩) n c) yss) {i j : Nat} (hi : i < yss.length) (hj : j < yss.length) (hij : i ≠ j) {x y : Value} (hx : w.cell? ⟨g, i, none⟩ = some x) (hy : w.cell? ⟨g, j, none⟩ = some y) :
    OwnS ((w.setCell ⟨g, i, none⟩ y).setCell ⟨g, j, none⟩ x) B (.slice (some ⟨g, 0, none⟩) n c) ((yss.set i (nthL yss j)).set j (nthL yss i)) ∧ w.grownBy ((w.setCell ⟨g, i, none⟩ y).setCell ⟨g, j, none⟩ x) (some g) := by
 have e := h.len
 subst e
 obtain ⟨hl, vs, ho, hin⟩ := h
 have vx : vs[i]? = some x := by rw [← ho.cellAt i (by omega)]; exact hx
 have vy : vs[j]? = some y := by rw [← ho.cellAt j (by omega)]; exact hy
 obtain ⟨h1, h2⟩ := ho.stored i y
 obtain ⟨h3, h4⟩ := h1.stored j x
 have row : ∀ (z : Value) (B2 : Nat) (xs : List Int), Own w B2 z xs → Own ((w.setCell ⟨g, i, none⟩ y).setCell ⟨g, j, none⟩ x) B2 z xs := fun z B2 xs hz => row_grow h1 h4 (row_grow ho h2 hz)
 have hil : i < vs.length := by rw [hin.1]; exact hi
 have hjl : j < vs.length := by rw [hin.1]; exact hj
 -- which row stands where
 have cas : ∀ (q : Nat) (z : Value), ((vs.set i y).set j x)[q]? = some z → ∃ q', vs[q']? = some z ∧ ((q = j ∧ q' = i) ∨ (q = i ∧ q ≠ j ∧ q' = j) ∨ (q ≠ i ∧ q ≠ j ∧ q' = q)) := fun q z hz => by
  by_cases e : q = j
  · subst e
    rw [List.getElem?_set_self (by rw [List.length_set]; exact hjl)] at hz
    injection hz with hz
    subst hz
    exact ⟨i, vx, .inl ⟨rfl, rfl⟩⟩
  · rw [List.getElem?_set_ne (Ne.symm e)] at hz
    by_cases e2 : q = i
    · subst e2
      rw [List.getElem?_set_self hil] at hz
      injection hz with hz
      subst hz
      exact ⟨j, vy, .inr (.inl ⟨rfl, e, rfl⟩)⟩
    · rw [List.getElem?_set_ne (Ne.symm e2)] at hz
      exact ⟨q, hz, .inr (.inr ⟨e2, e, rfl⟩)⟩
 refine ⟨⟨by simpa using hl, (vs.set i y).set j x, by simpa using h3, by simp [hin.1], fun q z hz => ?_, fun q k z u b hqk hz hu hzb hub => ?_⟩, grown_trans_row h2 h4⟩
 · obtain ⟨q', hq, hc⟩ := cas q z hz
   have o := row _ _ _ (hin.2.1 q' z hq)
   rcases hc with ⟨rfl, rfl⟩ | ⟨rfl, hne, rfl⟩ | ⟨h1, h2, rfl⟩
   · rw [nthL_set_same (by rw [List.length_set]; exact hj)]; exact o
   · rw [nthL_set_ne (Ne.symm hne), nthL_set_same hi]; exact o
   · rw [nthL_set_ne (Ne.symm h2), nthL_set_ne (Ne.symm h1)]; exact o
 · obtain ⟨q', hq, hc⟩ := cas q z hz
   obtain ⟨k', hk, hd⟩ := cas k u hu
   exact hin.2.2 q' k' z u b (by omega) hq hk hzb hub
theorem OwnSH.put2 (h : OwnSH w B hi (.slice (some ⟨g, 0, none⟩) n c) yss) {r y : Value} {ys : List Int} (hr : Own w hi r ys) (hB : B ≤ hi) {i t : Nat} (hi' : i < yss.length) (ht : t < yss.length) (hy : w.cell? ⟨g, t, none⟩ = some y) :
    OwnS ((w.setCell ⟨g, i, none⟩ y).setCell ⟨g, t, none⟩ r) B (.slice (some ⟨g, 0, none⟩) n c) ((yss.set i (nthL yss t)).set t ys) ∧ w.grownBy ((w.setCell ⟨g, i, none⟩ y).setCell ⟨g, t, none⟩ r) (some g) := by
 have e := h.own.len
 subst e
 obtain ⟨hl, vs, ho, hin, hv, hb⟩ := h
 have vy : vs[t]? = some y := by rw [← ho.cellAt t (by omega)]; exact hy
 obtain ⟨h1, h2⟩ := ho.stored i y
 obtain ⟨h3, h4⟩ := h1.stored t r
 have row : ∀ (z : Value) (B2 : Nat) (xs : List Int), Own w B2 z xs → Own ((w.setCell ⟨g, i, none⟩ y).setCell ⟨g, t, none⟩ r) B2 z xs := fun z B2 xs hz => row_grow h1 h4 (row_grow ho h2 hz)
 have hil : i < vs.length := by rw [hin.1]; exact hi'
 have htl : t < vs.length := by rw [hin.1]; exact ht
 have cas : ∀ (q : Nat) (z : Value), ((vs.set i y).set t r)[q]? = some z → (q = t ∧ z = r) ∨ ∃ q', vs[q']? = some z ∧ q ≠ t ∧ ((q = i ∧ q' = t) ∨ (q ≠ i ∧ q' = q)) := fun q z hz => by
  by_cases e : q = t
  · subst e
    rw [List.getElem?_set_self (by rw [List.length_set]; exact htl)] at hz
    injection hz with hz
    exact .inl ⟨rfl, hz.symm⟩
  · rw [List.getElem?_set_ne (Ne.symm e)] at hz
    by_cases e2 : q = i
    · subst e2
      rw [List.getElem?_set_self hil] at hz
      injection hz with hz
      subst hz
      exact .inr ⟨t, vy, e, .inl ⟨rfl, rfl⟩⟩
    · rw [List.getElem?_set_ne (Ne.symm e2)] at hz
      exact .inr ⟨q, hz, e, .inr ⟨e2, rfl⟩⟩
 refine ⟨⟨by simpa using hl, (vs.set i y).set t r, by simpa using h3, by simp [hin.1], fun q z hz => ?_, fun q k z u b hqk hz hu hzb hub => ?_⟩, grown_trans_row h2 h4⟩
 · rcases cas q z hz with ⟨rfl, rfl⟩ | ⟨q', hq, hne, hc⟩
   · rw [nthL_set_same (by rw [List.length_set]; exact ht)]
     exact (row _ _ _ hr).mono hB
   · have o := row _ _ _ (hin.2.1 q' z hq)
     rcases hc with ⟨rfl, rfl⟩ | ⟨h1, rfl⟩
     · rw [nthL_set_ne (Ne.symm hne), nthL_set_same hi']; exact o
     · rw [nthL_set_ne (Ne.symm hne), nthL_set_ne (Ne.symm h1)]; exact o
 · rcases cas q z hz with ⟨rfl, rfl⟩ | ⟨q', hq, hne, hc⟩ <;> rcases cas k u hu with ⟨rfl, rfl⟩ | ⟨k', hk, hke, hd⟩
   · omega
   · have a1 := (hr.lt b hzb).1
     have a2 := (hb k' u hk b hub).2
     omega
   · have a1 := (hr.lt b hub).1
     have a2 := (hb q' z hq b hzb).2
     omega
   · exact hin.2.2 q' k' z u b (by omega) hq hk hzb hub
theorem OwnS.inn (h : OwnS w B v yss) : In v B w.heap.size := by
 obtain ⟨_, vs, hr, _⟩ := h
 exact hr.lt
theorem Below.stepS {C : Nat} {a w' : World} (h : Below C a w) (hg : w.grownBy w' v.ownBlock) (ho : OwnS w B v yss) (hBo : C ≤ B) (hB : C ≤ w.heap.size) : Below C a w' :=
 h.grown hg hB (fun k hk => by have := (ho.inn k hk).1; omega)
theorem OwnS.take (h : OwnS w B (.slice (some ⟨g, 0, none⟩) n c) yss) {m : Nat} (hm : m ≤ n) : OwnS w B (.slice (some ⟨g, 0, none⟩) m c) (yss.take m) := by
 have e := h.len
 subst e
 obtain ⟨hl, vs, ⟨h1, h3⟩, hin⟩ := h
 have hml : (yss.take m).length = m := by rw [List.length_take]; omega
 refine ⟨by rw [hml]; omega, vs.take m, ?_, by rw [List.length_take, hml, hin.1]; omega, fun i x hx => ?_, fun i j x y b hij hx hy hxb => ?_⟩
 · rw [hml]
   refine ⟨by rw [List.length_take, hin.1]; omega, .inr ?_⟩
   rcases h3 with ⟨e, _⟩ | ⟨g', cap, cur, e, hb, hg, hn, hcm, hs, ht⟩
   · cases e
   · injection e with e1 e2 e3
     injection e1 with e1
     injection e1 with e1
     subst e1
     subst e3
     refine ⟨g, c, cur, rfl, hb, hg, by omega, hcm, hs, ?_⟩
     rw [← ht, List.take_take]
     congr 1
     omega
 · have hi : i < m := by
     have := (List.getElem?_eq_some_iff.1 hx).1
     rw [List.length_take] at this
     omega
   rw [List.getElem?_take_of_lt hi] at hx
   rw [nthL_take hi]
   exact hin.2.1 i x hx
 · have lt : ∀ (q : Nat) (z : Value), (vs.take m)[q]? = some z → vs[q]? = some z := fun q z hz => by
     have hq : q < m := by
      have := (List.getElem?_eq_some_iff.1 hz).1
      rw [List.length_take] at this
      omega
     rwa [List.getElem?_take_of_lt hq] at hz
   exact hin.2.2 i j x y b hij (lt i x hx) (lt j y hy) hxb
end
end Go.Proofs.YtgfcbmflnldicaaGreat
namespace Go.Proofs.YtgfcbmflnldicaaGreat
open Go.RowKit
section
variable {w : World} {B : Nat} {v : Value} {xs ys : List Int}
theorem run_append_ints (hown : Own w B v xs) (ad : Option Addr) (m c : Nat) (hm : m = ys.length) (hr : Rd w ad ys) (hl : xs.length + ys.length ≤ 1073741824) (hB : B ≤ w.heap.size) (ty : TypeId) :
    ∃ v' w', (Builtin.append_ #[24, 24] ty #[v, .slice ad m c]).run Tryz.prog w = .ok v' w' ∧ Own w' B v' (xs ++ ys) ∧ w.grownBy w' v.ownBlock ∧ (v'.ownBlock = v.ownBlock ∨ v'.ownBlock = some w.heap.size) := by
 obtain ⟨i0, hi0, hz0, hz1, hz2⟩ := info_parts Tryz.info_i64
 rcases Nat.eq_zero_or_pos ys.length with h0 | h0
 · have hy : ys = [] := List.eq_nil_of_length_eq_zero h0
   subst hy
   simp only [List.length_nil] at hm
   subst hm
   refine ⟨v, w, ?_, by simpa using hown, World.grownBy.refl w _, .inl rfl⟩
   rcases hown.2.2 with ⟨rfl, h0⟩ | ⟨g, cap, cur, rfl, _, _, hnc, _⟩
   · cases ad <;> simp [Builtin.append_, run_underlying Tryz.underlying24, sizeOf, typeInfo, hi0, Builtin.lenOf, Builtin.firstCells, loadCells, loadCellsFrom]
   · cases ad <;> simp [Builtin.append_, run_underlying Tryz.underlying24, sizeOf, typeInfo, hi0, Builtin.lenOf, Builtin.firstCells, hnc, storeCells, loadCells, loadCellsFrom]
 · obtain ⟨b, off, rfl, _, hc⟩ := hr.at_ h0
   obtain ⟨v', w', h1, h2, h3, _, h5⟩ := run_append_own_at (P := Tryz.prog) w B 24 ty 2 i0 (.int .i64 0) 1 8 Tryz.underlying24 hi0 hz0 hz1 hz2 rfl (by omega) v xs.length (xs.map (Value.int .i64)) hown.2 ⟨b, off, none⟩ m c (ys.map (Value.int .i64)) (by simp [hm])
    (fun j u hu => by
     have hj : j < ys.length := by
      have := (List.getElem?_eq_some_iff.1 hu).1
      simpa using this
     rw [Addr.add_lit, hc j hj, ← hu, List.getElem?_map, List.getElem?_eq_getElem hj, nth_lt hj]; rfl)
    (ints_oneCell _ _) (by unfold maxLen; omega) (by omega) hB
   exact ⟨v', w', h1, ⟨by simpa using hl, by rw [List.map_append, List.length_append, ← hm]; exact h2⟩, h3, h5⟩
theorem wp_append_ints {o : Oper} {a : Act} {K : Act → World → Prop} {Q : Exit → Act → World → Prop} (s x : Operand)
    (ho : o.op = .call { callee := .builtin .append, args := #[s, x], argTypes := #[24, 24] })
    (hs : a.eval s = v) (hown : Own w B v xs) (ad : Option Addr) (m c : Nat) (hx : a.eval x = .slice ad m c) (hm : m = ys.length) (hr : Rd w ad ys) (hl : xs.length + ys.length ≤ 1073741824) (hB : B ≤ w.heap.size)
    (h : ∀ v' w', Own w' B v' (xs ++ ys) → w.grownBy w' v.ownBlock → (v'.ownBlock = v.ownBlock ∨ v'.ownBlock = some w.heap.size) → K (a.put o.dst v') w') : Oper.wp Tryz.prog o a w K Q := by
 obtain ⟨v', w', hrun, h2, h3, h4⟩ := run_append_ints hown ad m c hm hr hl hB o.type
 unfold Oper.wp execOp
 simp only [ho, resolve, invoke, builtin, Sem.run_bind, Sem.run_pure, Result.andThen_ok, List.map_toArray, List.map_cons, List.map_nil, hs, hx, hrun]
 exact h v' w' h2 h3 h4
theorem step_append_ints {ops : Array Oper} {o : Oper} {a : Act} {K : Act → World → Prop} {Q : Exit → Act → World → Prop} {E : Prop} (hgd : o.guard = none) (s x : Operand)
    (ho : o.op = .call { callee := .builtin .append, args := #[s, x], argTypes := #[24, 24] })
    (hs : a.eval s = v) (hown : Own w B v xs) (ad : Option Addr) (m c : Nat) (hx : a.eval x = .slice ad m c) (hm : m = ys.length) (hr : Rd w ad ys) (hl : xs.length + ys.length ≤ 1073741824) (hB : B ≤ w.heap.size)
    (h : ∀ v' w', Own w' B v' (xs ++ ys) → w.grownBy w' v.ownBlock → (v'.ownBlock = v.ownBlock ∨ v'.ownBlock = some w.heap.size) → K (a.put o.dst v') w') :
    if Region.wanted o (yielded ops a.tmps) = true then Oper.wp Tryz.prog o a w K Q else E := by
 have hw : Region.wanted o (yielded ops a.tmps) = true := by simp [Region.wanted, hgd]
 rw [if_pos hw]
 exact wp_append_ints s x ho hs hown ad m c hx hm hr hl hB h
end
end Go.Proofs.YtgfcbmflnldicaaGreat
namespace Go.Proofs.YtgfcbmflnldicaaGreat
open Go.RowKit
theorem Own.cap {w : World} {B : Nat} {a : Option Addr} {n c : Nat} {xs : List Int} (h : Own w B (.slice a n c) xs) : n ≤ c ∧ c ≤ maxLen := by
 have hl := h.len
 subst hl
 rcases h.2.2 with ⟨e, h0⟩ | ⟨g', cap, cur, e, hb, hg, hn, hcm, hs, ht⟩
 · injection e with e1 e2 e3
   subst e3
   simp [h0]
 · injection e with e1 e2 e3
   subst e3
   exact ⟨hn, hcm⟩
theorem Own.take {w : World} {B : Nat} {g n c : Nat} {xs : List Int} (h : Own w B (.slice (some ⟨g, 0, none⟩) n c) xs) {m : Nat} (hm : m ≤ n) : Own w B (.slice (some ⟨g, 0, none⟩) m c) (xs.take m) := by
 have hl := h.len
 subst hl
 obtain ⟨h1, h2, h3⟩ := h
 refine ⟨by rw [List.length_take]; omega, ?_⟩
 have hml : (xs.take m).length = m := by rw [List.length_take]; omega
 rw [hml]
 refine ⟨by rw [List.length_map, hml]; omega, .inr ?_⟩
 rcases h3 with ⟨e, _⟩ | ⟨g', cap, cur, e, hb, hg, hn, hcm, hs, ht⟩
 · cases e
 · injection e with e1 e2 e3
   injection e1 with e1
   injection e1 with e1
   subst e1
   subst e3
   refine ⟨g, c, cur, rfl, hb, hg, by omega, hcm, hs, ?_⟩
   rw [List.map_take, ← ht, List.take_take]
   congr 1
   omega
theorem clone_any (a : Option Addr) (c : Nat) (xs : List Int) (w : World) (hx : Rd w a xs) :
    Calls Tryz.prog 115 #[.slice a xs.length c] w fun e w' => ∃ v, e = .returned v ∧ Own w' w.heap.size v xs ∧ Below w.heap.size w w' := by
 have q : ∀ (w : World) (a : Option Addr) (n c n' c' : Nat), (binOp .eql 24 (.slice a n c) (.slice none n' c')).run Tryz.prog w = .ok (.bool a.isNone) w := fun w a n c n' c' => Lib.run_eql_slice_nil w _ _ a n c n' c' Tryz.underlying24
 have hl := hx.len
 cases a with
 | none =>
  have h0 : xs = [] := by
   rcases Nat.eq_zero_or_pos xs.length with h | h
   · exact List.eq_nil_of_length_eq_zero h
   · obtain ⟨_, _, e, _⟩ := hx.at_ h
     cases e
  subst h0
  go_enter Tryz.func115, Tryz.ntmps115
  go_wp2
  go_ret
  exact ⟨_, rfl, Own.nil _ _, Below.refl _ _⟩
 | some p =>
  go_enter Tryz.func115, Tryz.ntmps115
  go_wp2_with (at_builtin; refine wpList_append_ints rfl (.tmp 5) (.tmp 6) rfl w.heap.size (.slice (some ⟨w.heap.size, 0, none⟩) 0 0) [] xs rfl (Own.empty w (Nat.le_refl _)) (some p) xs.length c rfl rfl (hx.alloc _) (by simp; omega) (by simp) ?_; intro v1 w1 hown1 hg1 _)
  go_ret
  refine ⟨_, rfl, by simpa using hown1, ?_⟩
  exact Below.step ((Below.refl _ _).alloc (Nat.le_refl _) _) hg1 (Own.empty w (Nat.le_refl _)) (Nat.le_refl _) (by simp)
theorem digitsOf_any (n p : Int) (k : Nat) (w : World) (hn : 0 ≤ n) (hn2 : n ≤ 9223372036854775807) (hp : 1 ≤ p) (hp2 : p ≤ 1000000) (hk : k ≤ 1000000) :
    Calls Tryz.prog 210 #[.int .i64 n, .int .i64 p, .int .i64 k] w fun e w' => ∃ v, e = .returned v ∧ Own w' w.heap.size v (dig n p k) ∧ Below w.heap.size w w' := by
 have hmk := fun W => run_make_row' (P := Tryz.prog) 24 2 (.int .i64 0) 8 Tryz.underlying24 Tryz.info_i64 rfl .i64 .i64 k (by omega) (by omega) W
 go_enter Tryz.func210, Tryz.ntmps210
 go_wp2
 go_loopw [0, 13] (fun nv i wr => ∃ (j : Nat) (m : Int), i = .int .i64 j ∧ nv = .int .i64 m ∧ j ≤ k ∧ 0 ≤ m ∧ m ≤ 9223372036854775807 ∧ Hid (m = n / p ^ j) ∧ wr.rowIs w.heap.size 2 k (fun i => if i < j then .int .i64 (nth (dig n p k) i) else .int .i64 0) ∧ Below w.heap.size w wr) (fun _ i _ => k - (intOf i).toNat)
 case atStart => exact ⟨0, n, rfl, rfl, by omega, hn, hn2, show _ = _ by simp, (World.rowIs_made w _ _ _).congr (fun i _ => by simp), (Below.refl _ _).alloc (Nat.le_refl _) _⟩
 case round =>
  obtain ⟨j, m, rfl, rfl, hj, hm0, hm1, hM, hrow, hb⟩ := hrel
  by_cases hjl : j < k
  · obtain ⟨u, hc1⟩ : ∃ u, wr.cell? ⟨w.heap.size, j, none⟩ = some u := ⟨_, hrow.cell hjl⟩
    have hf1 := hrow.frozen j
    have HR := Lib.hid hrow
    have hq0 : 0 ≤ m / p := Int.ediv_nonneg hm0 (by omega)
    have hq1 : m / p ≤ m := Int.ediv_le_self _ hm0
    clear hrow hmk
    go_wp2
    go_roundw
    case rel =>
     have hMM := hM.out
     refine ⟨j + 1, m / p, by go_num, rfl, by omega, hq0, by omega, show _ = _ by rw [hMM, div_pow_succ n p (by omega) j], (HR.out.set j _).congr (fun i hi => ?_), hb.setCell (Nat.le_refl _) _⟩
     by_cases h1 : i = j
     · subst h1
       simp [dig_nth n p hi, hMM]
     · by_cases h2 : i < j
       · simp [h1, h2, show i < j + 1 by omega]
       · simp [h1, h2, show ¬ i < j + 1 by omega]
    case measure => simp [intOf]; omega
  · have HR := Lib.hid hrow
    clear hrow
    go_wp2
    go_ret
    exact ⟨_, rfl, Own.of_rowIs HR.out (Nat.le_refl _) (dig_len _ _ _) (by rw [dig_len]; omega) (fun i hi => by simp [show i < j by omega]), hb⟩
theorem tmod_fix {x p : Int} (hp : 0 < p) : (x.tmod p + p) % p = x % p := by
 rw [Int.add_emod_right]
 rcases Int.le_total 0 x with h | h
 · rw [Int.tmod_eq_emod_of_nonneg h, Int.emod_emod]
 · have e := Int.mul_tdiv_add_tmod x p
   conv => rhs; rw [← e]
   rw [Int.add_comm, Int.add_mul_emod_self_left]
theorem tmod_lo {x p : Int} (hp : 0 < p) : -p < x.tmod p := by
 rcases Int.le_total 0 x with h | h
 · have := Int.tmod_nonneg p h; omega
 · have e : (-x).tmod p = -(x.tmod p) := Int.neg_tmod ..
   have h1 := Int.tmod_lt_of_pos (-x) hp
   omega
theorem tmod_hi {x p : Int} (hp : 0 < p) : x.tmod p < p := Int.tmod_lt_of_pos x hp
theorem remainder_any (a b : Option Addr) (c d : Nat) (xs ys : List Int) (p : Int) (w : World) (hx : Rd w a xs) (hy : Rd w b ys) (hp : 1 ≤ p) (hp2 : p ≤ 1000) (hxr : InR p xs) (hyr : ∀ y ∈ ys, 0 ≤ y ∧ y ≤ p) (hn : 1 ≤ xs.length) (hm : 1 ≤ ys.length) :
    Calls Tryz.prog 209 #[.slice a xs.length c, .slice b ys.length d, .int .i64 p] w fun e w' => ∃ v, e = .returned v ∧ Own w' w.heap.size v (prem p ys xs) ∧ Below w.heap.size w w' := by
 have hxl := hx.len
 have hyl := hy.len
 go_enter Tryz.func209, Tryz.ntmps209
 go_wp2_with fail
 refine (clone_any a c xs w hx).mono ?_
 rintro e w1 ⟨v, rfl, o1, b1⟩
 rcases o1.slice_form with ⟨rfl, rfl⟩ | ⟨g, cg, rfl, hB, hg⟩
 · simp at hn
 have hcap := o1.cap
 unfold maxLen at hcap
 obtain ⟨hcap1, hcap2⟩ := hcap
 clear hx
 go_wp2_with fail
 go_loopw [9] (fun kv wr => ∃ (t : Nat) (k : Int), kv = .int .i64 k ∧ Hid (k = (xs.length : Int) - 1 - t) ∧ k ≤ (xs.length : Int) - 1 ∧ -1 ≤ k ∧ Own wr w.heap.size (.slice (some ⟨g, 0, none⟩) xs.length cg) (remTo p ys xs t) ∧ Below w.heap.size w wr ∧ Hid (t ≤ xs.length - (ys.length - 1))) (fun kv _ => (intOf kv + 1).toNat)
 case atStart => exact ⟨0, _, rfl, show _ = _ by simp, by omega, by omega, o1, b1, Nat.zero_le _⟩
 case round =>
  obtain ⟨t, k, rfl, HK, hk1, hk2, ho, hb, hT⟩ := hrel
  have hlen := remTo_len p ys xs t
  by_cases hgo : (ys.length : Int) - 1 ≤ k
  · obtain ⟨i, rfl⟩ := Int.eq_ofNat_of_zero_le (show 0 ≤ k by omega)
    have hil : i < xs.length := by omega
    obtain ⟨R, hR⟩ : ∃ R, R = remTo p ys xs t := ⟨_, rfl⟩
    rw [← hR] at ho hlen
    have hRr : InR p R := by rw [hR]; exact remTo_in (by omega) hxr ys t
    have hc1 := ho.cell (j := i) (by omega)
    have hf := hRr.nth (i := i) (by omega)
    obtain ⟨F, hF⟩ : ∃ F, F = nth R i := ⟨_, rfl⟩
    rw [← hF] at hc1 hf
    have hf0 := hf.1
    have hf1 := hf.2
    have HR := Lib.hid hR
    have HF := Lib.hid hF
    have HL := Lib.hid hlen
    clear hR hF hlen hf
    go_wp2_with fail
    go_loopw [33] (fun jv wr2 => ∃ (j : Nat), jv = .int .i64 j ∧ j ≤ ys.length ∧ Own wr2 w.heap.size (.slice (some ⟨g, 0, none⟩) xs.length cg) (setK R ys F p (i - (ys.length - 1)) j) ∧ Below w.heap.size w wr2) (fun jv _ => ys.length - (intOf jv).toNat)
    case atStart => exact ⟨0, rfl, Nat.zero_le _, ho, hb⟩
    case round =>
     obtain ⟨j, rfl, hj, ho2, hb2⟩ := hrel
     have hSl := setK_len R ys F p (i - (ys.length - 1)) j
     by_cases hjl : j < ys.length
     · have hoff : i - (ys.length - 1) + j < xs.length := by omega
       obtain ⟨b2, o2, rfl, _, hcy⟩ := (hy.below hb2).at_ (by omega)
       have hy1 := hcy j hjl
       have hx1 := ho2.cell (j := i - (ys.length - 1) + j) (by rw [hSl, HL.out]; omega)
       rw [setK_nth _ _ _ _ _ (.inr (Nat.le_refl _))] at hx1
       have hxf := ho2.frozen (i - (ys.length - 1) + j)
       have hyb := hyr _ (nth_mem hjl)
       have hxb := hRr.nth (i := i - (ys.length - 1) + j) (by rw [HL.out]; omega)
       generalize hX : nth R (i - (ys.length - 1) + j) = X at hx1 hxb
       generalize hY : nth ys j = Y at hy1 hyb
       obtain ⟨hyb1, hyb2⟩ := hyb
       obtain ⟨hxb1, hxb2⟩ := hxb
       have hFY0 : 0 ≤ F * Y := Int.mul_nonneg hf0 hyb1
       have hFY1 : F * Y ≤ 1000000 := by
        have := Int.mul_le_mul (show F ≤ 1000 by omega) (show Y ≤ 1000 by omega) hyb1 (by omega)
        omega
       have ht1 := tmod_lo (x := X - F * Y) (show 0 < p by omega)
       have ht2 := tmod_hi (x := X - F * Y) (show 0 < p by omega)
       have HX := Lib.hid hX
       have HY := Lib.hid hY
       have HO2 := Lib.hid ho2
       have HO := Lib.hid ho
       have HS := Lib.hid hSl
       have hix : (i : Int) - ((ys.length : Int) - 1) + (j : Int) = ((i - (ys.length - 1) + j : Nat) : Int) := by omega
       have HIX := Lib.hid hix
       clear hX hY ho2 ho hSl hcy hix
       go_wp2
       go_roundw
       case rel =>
        have hs := HO2.out.set (i - (ys.length - 1) + j) ((X - F * Y).tmod p % p)
        refine ⟨j + 1, by go_num, by omega, ?_, hb2.setCell (by show w.heap.size ≤ g; omega) _⟩
        rw [setK, HX.out, HY.out, ← tmod_fix (x := X - F * Y) (show 0 < p by omega), Int.add_emod_right]
        exact hs.1
       case measure => simp only [intOf]; omega
     · have hje : j = ys.length := by omega
       have HJ := Lib.hid hje
       have HO2 := Lib.hid ho2
       clear hje ho2 ho hSl
       go_wp2
       go_roundw
       case rel =>
        have e1 := HJ.out
        have e2 := HR.out
        have e3 := HF.out
        have e4 := HK.out
        have o := HO2.out
        rw [e1] at o
        refine ⟨t + 1, (i : Int) - 1, rfl, show _ = _ by omega, by omega, by omega, ?_, hb2, show _ ≤ _ by omega⟩
        rw [remTo, ← e2, show xs.length - 1 - t = i by omega, ← e3]
        exact o
       case measure => simp only [intOf]; omega
  · have hTe : t = xs.length - (ys.length - 1) := by have := hT.out; have := HK.out; omega
    have HTE := Lib.hid hTe
    have HL := Lib.hid hlen
    have HO := Lib.hid ho
    clear hTe hlen ho
    by_cases hmn : ys.length - 1 ≤ xs.length
    · go_wp2
      go_ret
      have e1 := HTE.out
      rw [e1] at HO
      exact ⟨_, rfl, HO.out.take hmn, hb⟩
    · go_wp2
      go_ret
      have e1 := HTE.out
      rw [e1] at HO
      refine ⟨_, rfl, ?_, hb⟩
      have := HO.out.take (Nat.le_refl _)
      rw [prem, List.take_of_length_le (by rw [remTo_len]; omega)]
      rwa [List.take_of_length_le (by rw [remTo_len]; omega)] at this
end Go.Proofs.YtgfcbmflnldicaaGreat
namespace Go.Proofs.YtgfcbmflnldicaaGreat
open Go.RowKit
def irrD (poly : List Int) (p : Int) (d : Nat) : Bool := (List.range (p ^ d).toNat).all (fun (n : Nat) => !isZ (prem p (dig n p d ++ [1]) poly))
def irr (poly : List Int) (p : Int) : Bool := (List.range ((poly.length - 1) / 2)).all (fun e => irrD poly p (e + 1))
theorem irrD_no {poly : List Int} {p : Int} {d n : Nat} (hn : (n : Int) < p ^ d) (h : isZ (prem p (dig n p d ++ [1]) poly) = true) : irrD poly p d = false := by
 rw [irrD, List.all_eq_false]
 exact ⟨n, List.mem_range.2 (by omega), by simp [h]⟩
theorem irrD_yes {poly : List Int} {p : Int} {d : Nat} (h : ∀ n : Nat, (n : Int) < p ^ d → isZ (prem p (dig n p d ++ [1]) poly) = false) : irrD poly p d = true := by
 rw [irrD, List.all_eq_true]
 intro n hn
 rw [List.mem_range] at hn
 simp [h n (by omega)]
theorem irr_no {poly : List Int} {p : Int} {d : Nat} (h1 : 1 ≤ d) (h2 : 2 * d ≤ poly.length - 1) (h : irrD poly p d = false) : irr poly p = false := by
 rw [irr, List.all_eq_false]
 exact ⟨d - 1, List.mem_range.2 (by omega), by rw [show d - 1 + 1 = d by omega, h]; simp⟩
theorem irr_yes {poly : List Int} {p : Int} (h : ∀ d, 1 ≤ d → 2 * d ≤ poly.length - 1 → irrD poly p d = true) : irr poly p = true := by
 rw [irr, List.all_eq_true]
 intro e he
 rw [List.mem_range] at he
 exact h (e + 1) (by omega) (by omega)
theorem Rd.lit1 (w : World) (t : TypeId) : Rd (w.alloc (.cells #[.int .i64 1] t)) (some ⟨w.heap.size, 0, none⟩) [1] := Rd.one w 1 t
theorem InR.app {p : Int} {xs : List Int} (h : InR p xs) (hp : 2 ≤ p) : InR p (xs ++ [1]) := by
 intro x hx
 rcases List.mem_append.1 hx with h1 | h1
 · exact h x h1
 · have : x = 1 := by simpa using h1
   omega
theorem pow_mono {p : Int} (hp : 1 ≤ p) {a b : Nat} (h : a ≤ b) : p ^ a ≤ p ^ b := by
 induction b with
 | zero => obtain rfl : a = 0 := by omega
           exact Int.le_refl _
 | succ b ih =>
  by_cases e : a = b + 1
  · subst e; exact Int.le_refl _
  · have h1 := ih (by omega)
    have h0 : 0 ≤ p ^ b := Int.pow_nonneg (by omega)
    have := Int.mul_le_mul_of_nonneg_left hp h0
    rw [Int.pow_succ]
    omega
theorem pow_base {a b : Int} (h0 : 0 ≤ a) (h : a ≤ b) (k : Nat) : a ^ k ≤ b ^ k := by
 induction k with
 | zero => simp
 | succ k ih =>
  rw [Int.pow_succ, Int.pow_succ]
  exact Int.mul_le_mul ih h h0 (Int.pow_nonneg (by omega))
theorem irreducible_any (a : Option Addr) (c : Nat) (poly : List Int) (p : Int) (w : World) (hx : Rd w a poly) (hp : 2 ≤ p) (hp2 : p ≤ 64) (hr : InR p poly) (hn : 2 ≤ poly.length) (hq : p ^ (poly.length - 1) ≤ 64) :
    Calls Tryz.prog 155 #[.slice a poly.length c, .int .i64 p] w fun e w' => e = .returned (.bool (irr poly p)) ∧ Below w.heap.size w w' := by
 have hxl := hx.len
 obtain ⟨D, hD⟩ : ∃ D : Nat, D = poly.length - 1 := ⟨_, rfl⟩
 have HD := Lib.hid hD
 have hD1 : 1 ≤ D := by omega
 have hpl : (poly.length : Int) = D + 1 := by omega
 have HPL := Lib.hid hpl
 clear hD hpl
 have hD6 : D ≤ 6 := by
  rcases Nat.lt_or_ge 6 D with h | h
  · have h1 := pow_mono (p := p) (by omega) (show 7 ≤ poly.length - 1 by have := HD.out; omega)
    have h2 : (2 : Int) ^ 7 ≤ p ^ 7 := pow_base (by omega) hp 7
    have h3 : (2 : Int) ^ 7 = 128 := rfl
    omega
  · exact h
 go_enter Tryz.func155, Tryz.ntmps155
 go_wp2_with fail
 refine (size_any a poly.length c w).mono ?_
 rintro e w1 ⟨rfl, rfl⟩
 rw [HPL.out]
 go_wp2_with fail
 go_loopw [6] (fun dv wr => ∃ d : Nat, dv = .int .i64 d ∧ 1 ≤ d ∧ d ≤ 7 ∧ Below w.heap.size w wr ∧ Hid (∀ d', 1 ≤ d' → d' < d → 2 * d' ≤ poly.length - 1 → irrD poly p d' = true)) (fun dv _ => D + 1 - (intOf dv).toNat)
 case atStart => exact ⟨1, rfl, by omega, by omega, Below.refl _ _, fun d' h1 h2 => by omega⟩
 case round =>
  obtain ⟨d, rfl, hd1, hd7, hb, hall⟩ := hrel
  by_cases hgo : 2 * d ≤ D
  · have hgo2 : 2 * (d : Int) ≤ (D : Int) := by omega
    go_wp2_with fail
    have hpd : p ^ d ≤ 64 := Int.le_trans (pow_mono (by omega) (show d ≤ poly.length - 1 by have := HD.out; omega)) hq
    have hpd0 : 0 ≤ p ^ d := Int.pow_nonneg (by omega)
    have hcap := capTo_pow (l := 64) (show 1 ≤ p by omega) d hpd
    have hpw := fun W => powerUpTo_any p d 64 W (by omega) (by omega) (by omega) (by omega) (by omega)
    simp only [Int.toNat_natCast, hcap] at hpw
    obtain ⟨P, hP⟩ : ∃ P, P = p ^ d := ⟨_, rfl⟩
    rw [← hP] at hpw hpd hpd0
    have HP := Lib.hid hP
    have HPW := hide hpw
    clear hpw hcap hP
    go_loopw [7] (fun nv wr2 => ∃ n : Nat, nv = .int .i64 n ∧ n ≤ 64 ∧ Below w.heap.size w wr2 ∧ Hid (∀ n' : Nat, n' < n → isZ (prem p (dig n' p d ++ [1]) poly) = false)) (fun nv _ => P.toNat - (intOf nv).toNat)
    case atStart => exact ⟨0, rfl, by omega, hb, fun n' h => by omega⟩
    case round =>
     obtain ⟨n, rfl, hn64, hb2, hn'⟩ := hrel
     have hsz := hb2.size
     go_wp2_with fail
     refine (unhide HPW _).mono ?_
     rintro e w2 ⟨rfl, rfl⟩
     by_cases hlt : (n : Int) < P
     · go_wp2_with fail
       refine (digitsOf_any n p d _ (by omega) (by omega) (by omega) (by omega) (by omega)).mono ?_
       rintro e w3 ⟨v3, rfl, o3, b3⟩
       have hx3 := (hx.below hb2).below b3
       have hb3 := hb2.trans (b3.mono hsz)
       have hsz3 := b3.size
       go_wp2_with (at_builtin; refine wpList_append_ints rfl (.tmp 28) (.tmp 29) rfl _ v3 (dig n p d) [1] rfl (o3.alloc _) _ 1 1 rfl rfl (Rd.lit1 w3 _) (by rw [dig_len]; simp; omega) (by simp; omega) ?_; intro v4 w4 o4 hg4 _)
       have hb4 : Below wr.heap.size w3 w4 := Below.step ((Below.refl _ _).alloc hsz3 _) hg4 (o3.alloc _) (Nat.le_refl _) (by simp; omega)
       have hsz4 := hb4.size
       have hb4' := hb3.trans (hb4.mono hsz)
       have hx4 := hx.below hb4'
       have HO4 : Hid (Own w4 wr.heap.size v4 (dig n p d ++ [1])) := o4
       obtain ⟨a4, c4, rfl, r4, _⟩ := o4.form
       refine (remainder_any a a4 c c4 poly (dig n p d ++ [1]) p w4 hx4 r4 (by omega) (by omega) hr (fun y hy => by have := (InR.app (dig_range (by omega) d) hp) y hy; omega) (by omega) (by simp)).mono ?_
       rintro e w5 ⟨v5, rfl, o5, b5⟩
       obtain ⟨a5, c5, rfl, r5, _⟩ := o5.form
       have hb5 := hb4'.trans (b5.mono (by omega))
       clear HO4 hx3 hx4 r4 o5 hg4 o3 o4
       go_wp2_with fail
       refine (isZero_any a5 c5 _ w5 r5).mono ?_
       rintro e w6 ⟨rfl, rfl⟩
       generalize hz : isZ (prem p (dig n p d ++ [1]) poly) = z
       have HZ := Lib.hid hz
       clear hz r5
       cases z
       · go_wp2
         go_roundw
         case rel =>
          refine ⟨n + 1, by go_num, by omega, hb5, fun n' hn2 => ?_⟩
          rcases Nat.lt_succ_iff_lt_or_eq.1 hn2 with h | rfl
          · exact hn'.out n' h
          · exact HZ.out
         case measure => simp only [intOf]; omega
       · go_wp2
         go_ret
         have e1 := HP.out
         exact ⟨ret_bool (irr_no hd1 (by have := HD.out; omega) (irrD_no (by omega) HZ.out)).symm, hb5⟩
     · go_wp2
       go_roundw
       case rel =>
        refine ⟨d + 1, by go_num, by omega, by omega, hb2, fun d' h1 h2 h3 => ?_⟩
        rcases Nat.lt_succ_iff_lt_or_eq.1 h2 with h | rfl
        · exact hall.out d' h1 h h3
        · have e1 := HP.out
          exact irrD_yes (fun m hm => hn'.out m (by omega))
       case measure => simp only [intOf]; omega
  · go_wp2
    go_ret
    exact ⟨ret_bool (irr_yes (fun d' h1 h2 => hall.out d' h1 (by have := HD.out; omega) h2)).symm, hb⟩
end Go.Proofs.YtgfcbmflnldicaaGreat
namespace Go.Proofs.YtgfcbmflnldicaaGreat
open Go.RowKit
def Cg (p a b : Int) : Prop := ∃ k, a = b + p * k
theorem Cg.refl (p a : Int) : Cg p a a := ⟨0, by simp⟩
theorem Cg.of_eq {p a b : Int} (h : a = b) : Cg p a b := h ▸ Cg.refl p a
theorem Cg.symm {p a b : Int} (h : Cg p a b) : Cg p b a := by
 obtain ⟨k, rfl⟩ := h
 exact ⟨-k, by grind⟩
theorem Cg.trans {p a b c : Int} (h : Cg p a b) (g : Cg p b c) : Cg p a c := by
 obtain ⟨k, rfl⟩ := h
 obtain ⟨j, rfl⟩ := g
 exact ⟨j + k, by grind⟩
theorem Cg.add {p a b c d : Int} (h : Cg p a b) (g : Cg p c d) : Cg p (a + c) (b + d) := by
 obtain ⟨k, rfl⟩ := h
 obtain ⟨j, rfl⟩ := g
 exact ⟨k + j, by grind⟩
theorem Cg.mul {p a b c d : Int} (h : Cg p a b) (g : Cg p c d) : Cg p (a * c) (b * d) := by
 obtain ⟨k, rfl⟩ := h
 obtain ⟨j, rfl⟩ := g
 exact ⟨b * j + k * d + p * k * j, by grind⟩
theorem Cg.sub {p a b c d : Int} (h : Cg p a b) (g : Cg p c d) : Cg p (a - c) (b - d) := by
 obtain ⟨k, rfl⟩ := h
 obtain ⟨j, rfl⟩ := g
 exact ⟨k - j, by grind⟩
theorem Cg.emod (p a : Int) : Cg p (a % p) a := ⟨-(a / p), by have := Int.emod_add_mul_ediv a p; grind⟩
theorem Cg.eq {p a b : Int} (h : Cg p a b) (ha : 0 ≤ a ∧ a < p) (hb : 0 ≤ b ∧ b < p) : a = b := by
 obtain ⟨k, hk⟩ := h
 have h1 : a % p = b % p := by rw [hk, Int.add_mul_emod_self_left]
 rwa [Int.emod_eq_of_lt ha.1 ha.2, Int.emod_eq_of_lt hb.1 hb.2] at h1
theorem Cg.emod_eq {p a b : Int} (h : Cg p a b) : a % p = b % p := by
 obtain ⟨k, rfl⟩ := h
 rw [Int.add_mul_emod_self_left]
theorem nth_big {xs : List Int} {i : Nat} (h : xs.length ≤ i) : nth xs i = 0 := by simp [nth, h]
theorem nth_cons_zero (x : Int) (xs : List Int) : nth (x :: xs) 0 = x := rfl
theorem nth_cons_succ (x : Int) (xs : List Int) (i : Nat) : nth (x :: xs) (i + 1) = nth xs i := rfl
theorem num_nth {p : Int} (hp : 0 < p) : ∀ (xs : List Int), InR p xs → ∀ i, i < xs.length → num p xs / p ^ i % p = nth xs i := by
 intro xs
 induction xs with
 | nil => intro _ i hi; simp at hi
 | cons x xs ih =>
  intro h i hi
  have hx := h x List.mem_cons_self
  have hxs : InR p xs := fun y hy => h y (List.mem_cons_of_mem _ hy)
  rw [num_cons]
  rcases i with _ | i
  · rw [nth_cons_zero, Int.pow_zero, Int.ediv_one, Int.add_comm, Int.add_mul_emod_self_right, Int.emod_eq_of_lt hx.1 hx.2]
  · rw [nth_cons_succ, Int.pow_succ', ← Int.ediv_ediv_of_nonneg (by omega)]
    have e : (num p xs * p + x) / p = num p xs := by
     rw [Int.add_comm, Int.add_mul_ediv_right _ _ (by omega), Int.ediv_eq_zero_of_lt hx.1 hx.2, Int.zero_add]
    rw [e]
    exact ih hxs i (by simpa using hi)
theorem dig_num {p : Int} (hp : 0 < p) {xs : List Int} (h : InR p xs) {k : Nat} (hk : xs.length = k) : dig (num p xs) p k = xs := by
 apply eq_of_nth (by rw [dig_len, hk])
 intro i hi
 rw [dig_len] at hi
 rw [dig_nth _ _ hi, num_nth hp xs h i (by omega)]
theorem dig_cons (a p : Int) (hp : 0 < p) (k : Nat) : dig a p (k + 1) = a % p :: dig (a / p) p k := by
 unfold dig
 rw [List.range_succ_eq_map, List.map_cons, List.map_map, Int.pow_zero, Int.ediv_one]
 congr 1
 apply List.map_congr_left
 intro i _
 show a / p ^ (i + 1) % p = a / p / p ^ i % p
 rw [Int.pow_succ', ← Int.ediv_ediv_of_nonneg (by omega)]
theorem num_dig {p : Int} (hp : 0 < p) (k : Nat) : ∀ {a : Int}, 0 ≤ a → a < p ^ k → num p (dig a p k) = a := by
 induction k with
 | zero => intro a h0 h1; simp at h1; obtain rfl : a = 0 := by omega
           rfl
 | succ k ih =>
  intro a h0 h1
  rw [dig_cons a p hp, num_cons, ih (Int.ediv_nonneg h0 (by omega)) (Int.ediv_lt_of_lt_mul hp (by rw [Int.pow_succ] at h1; exact h1))]
  have := Int.emod_add_mul_ediv a p
  grind
theorem dig_inR {p : Int} (hp : 0 < p) (a : Int) (k : Nat) : InR p (dig a p k) := dig_range hp k
def lin (s p : Int) (k : Nat) (a b : Int) : Int := num p ((List.range k).map fun (i : Nat) => (a / p ^ i % p + s * (b / p ^ i % p)) % p)
theorem lin_inR {p : Int} (hp : 0 < p) (s : Int) (k : Nat) (a b : Int) : InR p ((List.range k).map fun (i : Nat) => (a / p ^ i % p + s * (b / p ^ i % p)) % p) := by
 intro x hx
 obtain ⟨i, _, rfl⟩ := List.mem_map.1 hx
 exact emod_range hp _
theorem lin_dig {p : Int} (hp : 0 < p) (s : Int) (k : Nat) (a b : Int) {i : Nat} (hi : i < k) : nth (dig (lin s p k a b) p k) i = (nth (dig a p k) i + s * nth (dig b p k) i) % p := by
 rw [lin, dig_num hp (lin_inR hp s k a b) (by simp), nth_lt (by simpa using hi), dig_nth _ _ hi, dig_nth _ _ hi]
 simp
theorem lin_range {p : Int} (hp : 0 < p) (s : Int) (k : Nat) (a b : Int) : 0 ≤ lin s p k a b ∧ lin s p k a b < p ^ k := by
 have h := num_bound hp (lin_inR hp s k a b)
 simpa [lin] using h
theorem dig_ext {p : Int} (hp : 0 < p) {k : Nat} {a b : Int} (ha : 0 ≤ a ∧ a < p ^ k) (hb : 0 ≤ b ∧ b < p ^ k) (h : ∀ i, i < k → Cg p (nth (dig a p k) i) (nth (dig b p k) i)) : a = b := by
 rw [← num_dig hp k ha.1 ha.2, ← num_dig hp k hb.1 hb.2]
 congr 1
 apply eq_of_nth (by rw [dig_len, dig_len])
 intro i hi
 have hi2 := hi
 rw [dig_len] at hi
 exact (h i hi).eq ((dig_inR hp a k).nth hi2) ((dig_inR hp b k).nth (by rw [dig_len]; exact hi))
theorem lin_cg {p : Int} (hp : 0 < p) (s : Int) (k : Nat) (a b : Int) {i : Nat} (hi : i < k) : Cg p (nth (dig (lin s p k a b) p k) i) (nth (dig a p k) i + s * nth (dig b p k) i) := by
 rw [lin_dig hp s k a b hi]; exact Cg.emod _ _
theorem lin_sign {p : Int} (k : Nat) (a b : Int) : lin (p - 1) p k a b = lin (-1) p k a b := by
 unfold lin
 congr 1
 apply List.map_congr_left
 intro i _
 exact Cg.emod_eq ⟨b / p ^ i % p, by grind⟩
theorem dig_zero_nth (p : Int) {k i : Nat} (h : i < k) : nth (dig 0 p k) i = 0 := by rw [dig_nth _ _ h]; simp
theorem lin_zero {p : Int} (hp : 0 < p) (s : Int) {k : Nat} {a : Int} (ha : 0 ≤ a ∧ a < p ^ k) : lin s p k a 0 = a := by
 refine dig_ext hp (lin_range hp ..) ha fun i hi => (lin_cg hp s k a 0 hi).trans ?_
 rw [dig_zero_nth p hi]
 exact Cg.of_eq (by simp)
def sm (f : Nat → Int) : Nat → Int
 | 0 => 0
 | n + 1 => sm f n + f n
theorem sm_congr {f g : Nat → Int} {n : Nat} (h : ∀ i, i < n → f i = g i) : sm f n = sm g n := by
 induction n with
 | zero => rfl
 | succ n ih => rw [sm, sm, ih (fun i hi => h i (by omega)), h n (by omega)]
theorem sm_cg {p : Int} {f g : Nat → Int} {n : Nat} (h : ∀ i, i < n → Cg p (f i) (g i)) : Cg p (sm f n) (sm g n) := by
 induction n with
 | zero => exact Cg.refl _ _
 | succ n ih => exact (ih (fun i hi => h i (by omega))).add (h n (by omega))
theorem sm_lin (s : Int) (f g : Nat → Int) (n : Nat) : sm (fun i => f i + s * g i) n = sm f n + s * sm g n := by
 induction n with
 | zero => simp [sm]
 | succ n ih => simp only [sm, ih]; grind
theorem sm_zero {f : Nat → Int} {n : Nat} (h : ∀ i, i < n → f i = 0) : sm f n = 0 := by
 induction n with
 | zero => rfl
 | succ n ih => rw [sm, ih (fun i hi => h i (by omega)), h n (by omega)]; rfl
theorem sm_more {f : Nat → Int} {a n : Nat} (han : a ≤ n) (h : ∀ i, a ≤ i → i < n → f i = 0) : sm f n = sm f a := by
 induction n with
 | zero => obtain rfl : a = 0 := by omega
           rfl
 | succ n ih =>
  by_cases e : a = n + 1
  · rw [e]
  · rw [sm, ih (by omega) (fun i h1 h2 => h i h1 (by omega)), h n (by omega) (by omega), Int.add_zero]
theorem sm_shift (f : Nat → Int) (n : Nat) : sm f (n + 1) = f 0 + sm (fun i => f (i + 1)) n := by
 induction n with
 | zero => simp [sm]
 | succ n ih => rw [sm, ih, sm]; grind
theorem sm_flip (f : Nat → Int) (n : Nat) : sm (fun i => f (n - 1 - i)) n = sm f n := by
 induction n generalizing f with
 | zero => rfl
 | succ n ih =>
  rw [sm_shift f, ← ih, sm]
  have : sm (fun i => f (n + 1 - 1 - i)) n = sm (fun i => f (n - 1 - i + 1)) n := sm_congr fun i hi => by congr 1; omega
  rw [this]
  simp [Int.add_comm]
def convTo (p : Int) (xs ys z : List Int) : Nat → List Int
 | 0 => z
 | i + 1 => setK (convTo p xs ys z i) ys (-(nth xs i)) p i ys.length
def zeros (m : Nat) : List Int := List.replicate m 0
theorem zeros_len (m : Nat) : (zeros m).length = m := by simp [zeros]
theorem zeros_nth (m i : Nat) : nth (zeros m) i = 0 := by
 simp only [nth, zeros, List.getD_eq_getElem?_getD, List.getElem?_replicate]
 split <;> rfl
theorem zeros_inR {p : Int} (hp : 0 < p) (m : Nat) : InR p (zeros m) := by
 intro x hx
 obtain rfl : x = 0 := by simpa [zeros] using (List.mem_replicate.1 hx).2
 omega
theorem convTo_len (p : Int) (xs ys z : List Int) (i : Nat) : (convTo p xs ys z i).length = z.length := by
 induction i with
 | zero => rfl
 | succ i ih => rw [convTo, setK_len, ih]
theorem convTo_inR {p : Int} (hp : 0 < p) (xs ys : List Int) {z : List Int} (hz : InR p z) (i : Nat) : InR p (convTo p xs ys z i) := by
 induction i with
 | zero => exact hz
 | succ i ih => exact setK_in hp ih _ _ _ _
theorem setK_get (xs ys : List Int) (c p : Int) (off k j : Nat) (h : off + k ≤ xs.length) :
    nth (setK xs ys c p off k) j = if off ≤ j ∧ j < off + k then (nth xs j - c * nth ys (j - off)) % p else nth xs j := by
 induction k with
 | zero => rw [if_neg (by omega)]; rfl
 | succ k ih =>
  have ih := ih (by omega)
  rw [setK]
  by_cases e : j = off + k
  · subst e
    rw [nth_set_same (by rw [setK_len]; omega), if_pos (by omega), Nat.add_sub_cancel_left]
  · rw [nth_set_ne (by omega), ih]
    by_cases g : off ≤ j ∧ j < off + k
    · rw [if_pos g, if_pos (by omega)]
    · rw [if_neg g, if_neg (by omega)]
def cv (x y : Nat → Int) (m : Nat) (n : Nat) : Int := sm (fun i => if i ≤ m then x i * y (m - i) else 0) n
theorem convTo_nth {p : Int} (hp : 0 < p) (xs ys : List Int) (L : Nat) (i : Nat) (hi : i + ys.length ≤ L + 1) (h0 : i ≤ L) (m : Nat) :
    nth (convTo p xs ys (zeros L) i) m = cv (nth xs) (nth ys) m i % p := by
 induction i with
 | zero => rw [convTo, zeros_nth]; simp [cv, sm]
 | succ i ih =>
  have ih := ih (by omega) (by omega)
  rw [convTo, setK_get _ _ _ _ _ _ _ (by rw [convTo_len, zeros_len]; omega), ih]
  show _ = (cv (nth xs) (nth ys) m i + (if i ≤ m then nth xs i * nth ys (m - i) else 0)) % p
  by_cases h1 : i ≤ m
  · rw [if_pos h1]
    by_cases h2 : m < i + ys.length
    · rw [if_pos ⟨h1, h2⟩]
      refine Cg.emod_eq (((Cg.emod p (cv (nth xs) (nth ys) m i)).sub (Cg.refl p _)).trans (Cg.of_eq ?_))
      grind
    · rw [if_neg (by omega), nth_big (xs := ys) (by omega)]; simp
  · rw [if_neg h1, if_neg (by omega)]; simp
theorem cv_full {x y : Nat → Int} {n : Nat} (hx : ∀ i, n ≤ i → x i = 0) (m : Nat) : cv x y m n = sm (fun i => x i * y (m - i)) (m + 1) := by
 unfold cv
 rcases Nat.le_total n (m + 1) with h | h
 · rw [sm_more h (fun i h1 h2 => by rw [hx i h1, Int.zero_mul])]
   exact sm_congr fun i hi => if_pos (by omega)
 · rw [sm_more h (fun i h1 h2 => if_neg (by omega))]
   exact sm_congr fun i hi => if_pos (by omega)
theorem cv_comm {x y : Nat → Int} {n : Nat} (hx : ∀ i, n ≤ i → x i = 0) (hy : ∀ i, n ≤ i → y i = 0) (m : Nat) : cv x y m n = cv y x m n := by
 rw [cv_full hx, cv_full hy, ← sm_flip (fun i => y i * x (m - i)) (m + 1)]
 apply sm_congr
 intro i hi
 show _ = y (m + 1 - 1 - i) * x (m - (m + 1 - 1 - i))
 rw [Int.mul_comm, show m + 1 - 1 - i = m - i by omega, show m - (m - i) = i by omega]
theorem cv_cg {p : Int} {x y x' y' : Nat → Int} {m n : Nat} (hx : ∀ i, Cg p (x i) (x' i)) (hy : ∀ i, Cg p (y i) (y' i)) : Cg p (cv x y m n) (cv x' y' m n) := by
 refine sm_cg fun i _ => ?_
 split
 · exact (hx _).mul (hy _)
 · exact Cg.refl _ _
theorem cv_lin (s : Int) (x y z : Nat → Int) (m n : Nat) : cv x (fun i => y i + s * z i) m n = cv x y m n + s * cv x z m n := by
 unfold cv
 rw [← sm_lin]
 apply sm_congr
 intro i _
 split
 · grind
 · simp
theorem remTo_lin {p : Int} (s : Int) (ys xs us vs : List Int) (hu : us.length = xs.length) (hv : vs.length = xs.length) (hy : 1 ≤ ys.length)
    (h : ∀ j, Cg p (nth xs j) (nth us j + s * nth vs j)) (t : Nat) (ht : t ≤ xs.length - (ys.length - 1)) : ∀ j, Cg p (nth (remTo p ys xs t) j) (nth (remTo p ys us t) j + s * nth (remTo p ys vs t) j) := by
 induction t with
 | zero => exact h
 | succ t ih =>
  have ih := ih (by omega)
  intro j
  rw [remTo, remTo, remTo, hu, hv, setK_get _ _ _ _ _ _ _ (by rw [remTo_len]; omega), setK_get _ _ _ _ _ _ _ (by rw [remTo_len, hu]; omega), setK_get _ _ _ _ _ _ _ (by rw [remTo_len, hv]; omega)]
  split
  · refine (Cg.emod _ _).trans (Cg.trans ?_ ((Cg.emod _ _).add ((Cg.refl p s).mul (Cg.emod _ _))).symm)
    refine ((ih j).sub ((ih _).mul (Cg.refl p _))).trans (Cg.of_eq ?_)
    grind
  · exact ih j
theorem take_nth_lt {xs : List Int} {k j : Nat} (h : j < k) : nth (xs.take k) j = nth xs j := by
 simp [nth, List.getD_eq_getElem?_getD, h]
theorem prem_lin {p : Int} (s : Int) (ys xs us vs : List Int) (hu : us.length = xs.length) (hv : vs.length = xs.length) (hy : 1 ≤ ys.length)
    (h : ∀ j, Cg p (nth xs j) (nth us j + s * nth vs j)) (j : Nat) : Cg p (nth (prem p ys xs) j) (nth (prem p ys us) j + s * nth (prem p ys vs) j) := by
 by_cases hj : j < ys.length - 1
 · rw [prem, prem, prem, take_nth_lt hj, take_nth_lt hj, take_nth_lt hj, hu, hv]
   exact remTo_lin s ys xs us vs hu hv hy h _ (Nat.le_refl _) j
 · rw [nth_big (by rw [prem_len]; omega), nth_big (by rw [prem_len]; omega), nth_big (by rw [prem_len]; omega)]
   exact Cg.of_eq (by simp)
def mulD (p : Int) (poly xs ys : List Int) (L : Nat) : List Int := prem p poly (convTo p xs ys (zeros L) xs.length)
def mulF (p : Int) (k : Nat) (poly : List Int) (a b : Int) : Int := num p (mulD p poly (dig a p k) (dig b p k) (2 * k))
section
variable {p : Int} {k : Nat} {poly : List Int}
theorem mulD_len (hl : poly.length = k + 1) {xs ys : List Int} {L : Nat} (hL : k ≤ L) : (mulD p poly xs ys L).length = k := by
 rw [mulD, prem_len, convTo_len, zeros_len]; omega
theorem mulD_inR (hp : 0 < p) (xs ys : List Int) (L : Nat) : InR p (mulD p poly xs ys L) := prem_in hp (convTo_inR hp _ _ (zeros_inR hp _) _) _
theorem mulF_range (hp : 0 < p) (hl : poly.length = k + 1) (a b : Int) : 0 ≤ mulF p k poly a b ∧ mulF p k poly a b < p ^ k := by
 have h := num_bound hp (mulD_inR (poly := poly) hp (dig a p k) (dig b p k) (2 * k))
 rwa [mulD_len hl (by omega)] at h
theorem mulF_dig (hp : 0 < p) (hl : poly.length = k + 1) (a b : Int) : dig (mulF p k poly a b) p k = mulD p poly (dig a p k) (dig b p k) (2 * k) :=
 dig_num hp (mulD_inR hp _ _ _) (mulD_len hl (by omega))
theorem mulF_comm (hp : 0 < p) (a b : Int) : mulF p k poly a b = mulF p k poly b a := by
 unfold mulF mulD
 congr 2
 rw [dig_len, dig_len]
 apply eq_of_nth (by rw [convTo_len, convTo_len])
 intro m hm
 rw [convTo_nth hp _ _ _ _ (by rw [dig_len]; omega) (by omega), convTo_nth hp _ _ _ _ (by rw [dig_len]; omega) (by omega)]
 rw [cv_comm (fun i hi => nth_big (by rw [dig_len]; exact hi)) (fun i hi => nth_big (by rw [dig_len]; exact hi))]
theorem lin_cg_all (hp : 0 < p) (s a b : Int) (i : Nat) : Cg p (nth (dig (lin s p k a b) p k) i) (nth (dig a p k) i + s * nth (dig b p k) i) := by
 by_cases hi : i < k
 · exact lin_cg hp s k a b hi
 · rw [nth_big (by rw [dig_len]; omega), nth_big (by rw [dig_len]; omega), nth_big (by rw [dig_len]; omega)]
   exact Cg.of_eq (by simp)
theorem mulF_lin (hp : 0 < p) (hl : poly.length = k + 1) (s a b c : Int) : mulF p k poly a (lin s p k b c) = lin s p k (mulF p k poly a b) (mulF p k poly a c) := by
 refine dig_ext hp (mulF_range hp hl _ _) (lin_range hp ..) fun i hi => ?_
 refine Cg.trans ?_ (lin_cg hp s k _ _ hi).symm
 rw [mulF_dig hp hl, mulF_dig hp hl, mulF_dig hp hl]
 refine prem_lin s poly _ _ _ (by rw [convTo_len, convTo_len]) (by rw [convTo_len, convTo_len]) (by omega) (fun j => ?_) i
 rw [dig_len, convTo_nth hp _ _ _ _ (by rw [dig_len]; omega) (by omega), convTo_nth hp _ _ _ _ (by rw [dig_len]; omega) (by omega), convTo_nth hp _ _ _ _ (by rw [dig_len]; omega) (by omega)]
 refine (Cg.emod _ _).trans (Cg.trans ?_ ((Cg.emod _ _).add ((Cg.refl p s).mul (Cg.emod _ _))).symm)
 refine (cv_cg (fun i => Cg.refl _ _) (fun i => lin_cg_all hp s b c i)).trans (Cg.of_eq ?_)
 exact cv_lin s _ _ _ _ _
theorem mulF_zero (hp : 0 < p) (hl : poly.length = k + 1) (a : Int) : mulF p k poly a 0 = 0 := by
 have h0 : (0 : Int) < p ^ k := Int.pow_pos hp
 have h := mulF_lin hp hl (-1) a 0 0
 rw [lin_zero hp (-1) ⟨Int.le_refl _, h0⟩] at h
 refine dig_ext hp (mulF_range hp hl _ _) ⟨Int.le_refl _, h0⟩ fun i hi => ?_
 rw [h]
 refine (lin_cg hp _ _ _ _ hi).trans ?_
 rw [dig_zero_nth p hi]
 exact Cg.of_eq (by grind)
theorem zero_mulF (hp : 0 < p) (hl : poly.length = k + 1) (a : Int) : mulF p k poly 0 a = 0 := by rw [mulF_comm hp, mulF_zero hp hl]
theorem add_neg_mul (hp : 0 < p) (hl : poly.length = k + 1) (a c w : Int) : lin 1 p k a (mulF p k poly (lin (-1) p k 0 c) w) = lin (-1) p k a (mulF p k poly c w) := by
 rw [mulF_comm hp (lin _ _ _ _ _), mulF_lin hp hl, mulF_zero hp hl, mulF_comm hp w c]
 refine dig_ext hp (lin_range hp ..) (lin_range hp ..) fun i hi => ?_
 refine ((lin_cg hp _ _ _ _ hi).trans ((Cg.refl p _).add ((Cg.refl p _).mul (lin_cg hp _ _ _ _ hi)))).trans (Cg.trans ?_ (lin_cg hp _ _ _ _ hi).symm)
 rw [dig_zero_nth p hi]
 exact Cg.of_eq (by grind)
end
theorem inR_nth {p : Int} (hp : 0 < p) {xs : List Int} (h : InR p xs) (j : Nat) : 0 ≤ nth xs j ∧ nth xs j < p := by
 by_cases hj : j < xs.length
 · exact h.nth hj
 · rw [nth_big (by omega)]; omega
theorem remTo_succ (p : Int) (ys xs : List Int) (t : Nat) : remTo p ys xs (t + 1) = setK (remTo p ys xs t) ys (nth (remTo p ys xs t) (xs.length - 1 - t)) p (xs.length - 1 - t - (ys.length - 1)) ys.length := rfl
theorem remTo_pad {p : Int} (hp : 0 < p) (ys xs us : List Int) (hl : xs.length = us.length + 1) (hr : InR p xs) (hy : 1 ≤ ys.length) (hyl : ys.length - 1 ≤ us.length)
    (h : ∀ j, nth xs j = nth us j) (t : Nat) (ht : t ≤ us.length - (ys.length - 1)) : ∀ j, nth (remTo p ys xs (t + 1)) j = nth (remTo p ys us t) j := by
 induction t with
 | zero =>
  intro j
  rw [remTo, remTo, remTo, setK_get _ _ _ _ _ _ _ (by omega), h (xs.length - 1 - 0), nth_big (xs := us) (by omega)]
  split
  · rw [Int.zero_mul, Int.sub_zero, h j, ← h j, Int.emod_eq_of_lt (inR_nth hp hr j).1 (inR_nth hp hr j).2]
  · exact h j
 | succ t ih =>
  have ih := ih (by omega)
  intro j
  rw [remTo_succ p ys xs (t + 1), remTo_succ p ys us t, setK_get _ _ _ _ _ _ _ (by rw [remTo_len]; omega), setK_get _ _ _ _ _ _ _ (by rw [remTo_len]; omega), ih j, hl, show us.length + 1 - 1 - (t + 1) = us.length - 1 - t by omega, ih]
theorem mulD_pad {p : Int} (hp : 0 < p) {k : Nat} {poly xs ys : List Int} (hk : 1 ≤ k) (hl : poly.length = k + 1) (hx : xs.length = k) (hy : ys.length = k) : mulD p poly xs ys (2 * k - 1) = mulD p poly xs ys (2 * k) := by
 have hz : ∀ L, (convTo p xs ys (zeros L) xs.length).length = L := fun L => by rw [convTo_len, zeros_len]
 apply eq_of_nth (by rw [mulD_len hl (by omega), mulD_len hl (by omega)])
 intro i hi
 rw [mulD_len hl (by omega)] at hi
 unfold mulD prem
 rw [take_nth_lt (by omega), take_nth_lt (by omega), hz, hz, show 2 * k - (poly.length - 1) = (2 * k - 1 - (poly.length - 1)) + 1 by omega]
 refine (remTo_pad hp poly _ _ (by rw [hz, hz]; omega) (convTo_inR hp _ _ (zeros_inR hp _) _) (by omega) (by rw [hz]; omega) (fun j => ?_) _ (by rw [hz]; exact Nat.le_refl _) i).symm
 rw [convTo_nth hp _ _ _ _ (by omega) (by omega), convTo_nth hp _ _ _ _ (by omega) (by omega)]
end Go.Proofs.YtgfcbmflnldicaaGreat
namespace Go.Proofs.YtgfcbmflnldicaaGreat
open Go.RowKit
theorem l00Own_any (a : Option Addr) (c : Nat) (xs : List Int) (w : World) (hx : Rd w a xs) :
    Calls Tryz.prog 108 #[.slice a xs.length c] w fun e w' => ∃ v, e = .returned v ∧ Own w' w.heap.size v xs ∧ Below w.heap.size w w' := by
 have hxl := hx.len
 go_enter Tryz.func108, Tryz.ntmps108
 go_wp2_with (at_builtin; refine wpList_append_ints rfl (.tmp 3) (.tmp 4) rfl w.heap.size _ [] xs rfl (Own.empty w (Nat.le_refl _)) a xs.length c rfl rfl (hx.alloc _) (by simpa using hxl) (by simp) ?_; intro v1 w1 hown1 hg1 _)
 go_ret
 exact ⟨_, rfl, by simpa using hown1, Below.step ((Below.refl _ _).alloc (Nat.le_refl _) _) hg1 (Own.empty w (Nat.le_refl _)) (Nat.le_refl _) (by simp)⟩
theorem l03Digits_any (n p : Int) (k : Nat) (w : World) (hn : 0 ≤ n) (hn2 : n ≤ 9223372036854775807) (hp : 1 ≤ p) (hp2 : p ≤ 1000000) (hk : k ≤ 1000000) :
    Calls Tryz.prog 152 #[.int .i64 n, .int .i64 p, .int .i64 k] w fun e w' => ∃ v, e = .returned v ∧ Own w' w.heap.size v (dig n p k) ∧ Below w.heap.size w w' := by
 go_enter Tryz.func152, Tryz.ntmps152
 go_wp2
 go_loopw [0, 2, 7] (fun nv kv v wr => ∃ (j r : Nat) (m : Int), nv = .int .i64 m ∧ kv = .int .i64 (r : Int) ∧ Hid (j + r = k) ∧ r ≤ 1000000 ∧ j ≤ 1000000 ∧ 0 ≤ m ∧ m ≤ 9223372036854775807 ∧ Hid (m = n / p ^ j) ∧ Own wr w.heap.size v (dig n p j) ∧ Below w.heap.size w wr) (fun _ kv _ _ => (intOf kv).toNat)
 case atStart => exact ⟨0, k, n, rfl, rfl, by simp [Hid], hk, by omega, hn, hn2, by simp [Hid], Own.empty w (Nat.le_refl _), (Below.refl _ _).alloc (Nat.le_refl _) _⟩
 case round =>
  obtain ⟨j, r, m, rfl, rfl, hjr, hr, hj, hm0, hm1, hm, ho, hb⟩ := hrel
  have hsz := hb.size
  by_cases hr0 : 0 < r
  · have e1 := Int.emod_nonneg m (show p ≠ 0 by omega)
    have e2 := Int.emod_lt_of_pos m (show 0 < p by omega)
    have e3 := Int.ediv_nonneg hm0 (show 0 ≤ p by omega)
    have e4 : m / p ≤ m := Int.ediv_le_self _ hm0
    have hdl := dig_len n p j
    go_wp2_with (at_builtin; refine wpList_append_ints rfl (.tmp 13) (.tmp 17) rfl w.heap.size u7 (dig n p j) [m % p] rfl (ho.alloc _) _ 1 1 rfl rfl (Rd.one wr (m % p) _) (by rw [hdl]; simp; omega) (by simp; omega) ?_; intro v1 w1 hown1 hg1 _)
    go_roundw
    case rel => exact ⟨j + 1, r - 1, m / p, rfl, by go_num, by have := hjr.out; show _ = _; omega, by omega, by have := hjr.out; omega, e3, by omega, by show _ = _; rw [hm.out, div_pow_succ n p (by omega)], by rw [dig_succ, ← hm.out]; exact hown1, Below.step (hb.alloc hsz _) hg1 (ho.alloc _) (Nat.le_refl _) (by simp; omega)⟩
    case measure => first | (simp [intOf]; done) | (simp [intOf]; omega)
  · go_wp2
    go_ret
    exact ⟨_, rfl, by have := hjr.out; obtain rfl : j = k := by omega
                      exact ho, hb⟩
theorem l03Number_any (a : Option Addr) (c : Nat) (xs : List Int) (p : Int) (w : World) (hx : Rd w a xs) (hp : 1 ≤ p) (hp2 : p ≤ 1000000) (hr : InR p xs) (hq : p ^ xs.length ≤ 1099511627776) :
    Calls Tryz.prog 175 #[.slice a xs.length c, .int .i64 p] w fun e w' => e = .returned (.int .i64 (num p xs)) ∧ w = w' := by
 have hxl := hx.len
 have bnd : ∀ m, m < xs.length → 0 ≤ num p (xs.drop (m + 1)) * p ∧ num p (xs.drop (m + 1)) * p ≤ 1099511627776 ∧ 0 ≤ nth xs m ∧ nth xs m < p ∧ num p (xs.drop (m + 1)) * p + nth xs m ≤ 1099511627776 := by
  intro m hm
  have h1 := num_bound (p := p) (by omega) (xs := xs.drop m) (fun x hx => hr x (List.mem_of_mem_drop hx))
  have h2 := num_bound (p := p) (by omega) (xs := xs.drop (m + 1)) (fun x hx => hr x (List.mem_of_mem_drop hx))
  rw [num_drop p hm] at h1
  have h3 : p ^ (xs.drop m).length ≤ p ^ xs.length := pow_mono hp (by simp)
  have h4 := hr.nth hm
  have h5 : 0 ≤ num p (xs.drop (m + 1)) * p := Int.mul_nonneg h2.1 (by omega)
  exact ⟨h5, by omega, h4.1, h4.2, by omega⟩
 have BN := hide bnd
 clear bnd hq
 go_enter Tryz.func175, Tryz.ntmps175
 go_wp2
 go_loop [5, 6] (fun o i => ∃ (j : Nat) (x y : Int), i = .int .i64 x ∧ o = .int .i64 y ∧ Hid (x = j - 1) ∧ j ≤ xs.length ∧ -1 ≤ x ∧ x < 1073741824 ∧ Hid (y = num p (xs.drop j)) ∧ 0 ≤ y ∧ y ≤ 1099511627776) (fun _ i => (intOf i + 1).toNat)
 case atStart => exact ⟨xs.length, _, 0, rfl, rfl, by simp [Hid], Nat.le_refl _, by omega, by omega, by simp [Hid, num], by omega, by omega⟩
 case round =>
  obtain ⟨j, x, y, rfl, rfl, hxj, hj, hx0, hx1, hy, hy0, hy1⟩ := hrel
  by_cases h0 : 0 ≤ x
  · obtain ⟨m, rfl⟩ := Int.eq_ofNat_of_zero_le h0
    obtain rfl : j = m + 1 := by have := hxj.out; omega
    obtain ⟨b1, b2, b3, b4, b5⟩ := (unhide BN) m (by omega)
    rw [← hy.out] at b1 b2 b5
    obtain ⟨g, o, rfl, _, hcx⟩ := hx.at_ (by omega)
    have hc := hcx m (by omega)
    clear hcx hx
    go_wp2
    go_round
    case rel => exact ⟨m, _, _, rfl, rfl, rfl, by omega, by omega, by omega, by have := hy.out; subst this; exact (num_drop p (by omega)).symm, by omega, by omega⟩
    case measure => first | (simp [intOf]; done) | (simp [intOf]; omega)
  · go_wp2
    go_ret
    exact ⟨ret_int (by have := hxj.out; obtain rfl : j = 0 := by omega
                       rw [hy.out]; rfl), rfl⟩
theorem numberOf_any (a : Option Addr) (c : Nat) (xs : List Int) (p : Int) (w : World) (hx : Rd w a xs) (hp : 1 ≤ p) (hp2 : p ≤ 1000000) (hr : InR p xs) (hq : p ^ xs.length ≤ 1099511627776) :
    Calls Tryz.prog 213 #[.slice a xs.length c, .int .i64 p] w fun e w' => e = .returned (.int .i64 (num p xs)) ∧ w = w' := by
 have hxl := hx.len
 have bnd : ∀ m, m < xs.length → 0 ≤ num p (xs.drop (m + 1)) * p ∧ num p (xs.drop (m + 1)) * p ≤ 1099511627776 ∧ 0 ≤ nth xs m ∧ nth xs m < p ∧ num p (xs.drop (m + 1)) * p + nth xs m ≤ 1099511627776 := by
  intro m hm
  have h1 := num_bound (p := p) (by omega) (xs := xs.drop m) (fun x hx => hr x (List.mem_of_mem_drop hx))
  have h2 := num_bound (p := p) (by omega) (xs := xs.drop (m + 1)) (fun x hx => hr x (List.mem_of_mem_drop hx))
  rw [num_drop p hm] at h1
  have h3 : p ^ (xs.drop m).length ≤ p ^ xs.length := pow_mono hp (by simp)
  have h4 := hr.nth hm
  have h5 : 0 ≤ num p (xs.drop (m + 1)) * p := Int.mul_nonneg h2.1 (by omega)
  exact ⟨h5, by omega, h4.1, h4.2, by omega⟩
 have BN := hide bnd
 clear bnd hq
 go_enter Tryz.func213, Tryz.ntmps213
 go_wp2
 go_loop [5, 6] (fun o i => ∃ (j : Nat) (x y : Int), i = .int .i64 x ∧ o = .int .i64 y ∧ Hid (x = j - 1) ∧ j ≤ xs.length ∧ -1 ≤ x ∧ x < 1073741824 ∧ Hid (y = num p (xs.drop j)) ∧ 0 ≤ y ∧ y ≤ 1099511627776) (fun _ i => (intOf i + 1).toNat)
 case atStart => exact ⟨xs.length, _, 0, rfl, rfl, by simp [Hid], Nat.le_refl _, by omega, by omega, by simp [Hid, num], by omega, by omega⟩
 case round =>
  obtain ⟨j, x, y, rfl, rfl, hxj, hj, hx0, hx1, hy, hy0, hy1⟩ := hrel
  by_cases h0 : 0 ≤ x
  · obtain ⟨m, rfl⟩ := Int.eq_ofNat_of_zero_le h0
    obtain rfl : j = m + 1 := by have := hxj.out; omega
    obtain ⟨b1, b2, b3, b4, b5⟩ := (unhide BN) m (by omega)
    rw [← hy.out] at b1 b2 b5
    obtain ⟨g, o, rfl, _, hcx⟩ := hx.at_ (by omega)
    have hc := hcx m (by omega)
    clear hcx hx
    go_wp2
    go_round
    case rel => exact ⟨m, _, _, rfl, rfl, rfl, by omega, by omega, by omega, by have := hy.out; subst this; exact (num_drop p (by omega)).symm, by omega, by omega⟩
    case measure => first | (simp [intOf]; done) | (simp [intOf]; omega)
  · go_wp2
    go_ret
    exact ⟨ret_int (by have := hxj.out; obtain rfl : j = 0 := by omega
                       rw [hy.out]; rfl), rfl⟩
theorem l03Power_any (p : Int) (k : Nat) (w : World) (hp : 1 ≤ p) (hp2 : p ≤ 1000000) (hk : k ≤ 1000000) (hq : p ^ k ≤ 1099511627776) :
    Calls Tryz.prog 193 #[.int .i64 p, .int .i64 k] w fun e w' => e = .returned (.int .i64 (p ^ k)) ∧ w = w' := by
 have bnd : ∀ j, j < k → 0 ≤ p ^ j * p ∧ p ^ j * p ≤ 1099511627776 := by
  intro j hj
  have h1 : p ^ (j + 1) ≤ p ^ k := pow_mono hp hj
  rw [Int.pow_succ] at h1
  exact ⟨Int.mul_nonneg (Int.pow_nonneg (by omega)) (by omega), by omega⟩
 have BN := hide bnd
 clear bnd hq
 go_enter Tryz.func193, Tryz.ntmps193
 go_wp2
 go_loop [1, 5] (fun kv o => ∃ (j r : Nat) (y : Int), kv = .int .i64 (r : Int) ∧ o = .int .i64 y ∧ Hid (j + r = k) ∧ r ≤ 1000000 ∧ Hid (y = p ^ j)) (fun kv _ => (intOf kv).toNat)
 case atStart => exact ⟨0, k, 1, rfl, rfl, by simp [Hid], hk, by simp [Hid]⟩
 case round =>
  obtain ⟨j, r, y, rfl, rfl, hjr, hr, hy⟩ := hrel
  by_cases h0 : 0 < r
  · obtain ⟨b1, b2⟩ := (unhide BN) j (by have := hjr.out; omega)
    rw [← hy.out] at b1 b2
    go_wp2
    go_round
    case rel => exact ⟨j + 1, r - 1, _, by go_num, rfl, by have := hjr.out; show _ = _; omega, by omega, by show _ = _; rw [hy.out, Int.pow_succ]⟩
    case measure => first | (simp [intOf]; done) | (simp [intOf]; omega)
  · go_wp2
    go_ret
    exact ⟨ret_int (by have := hjr.out; obtain rfl : j = k := by omega
                       exact hy.out), rfl⟩
end Go.Proofs.YtgfcbmflnldicaaGreat
namespace Go.Proofs.YtgfcbmflnldicaaGreat
open Go.RowKit
theorem results_cell_tmp_row {P : Program} {fn : Func} {p u : Tmp} {ty : TypeId} (h : fn.results = #[.cell p ty, .tmp u]) (tmps : Array Value) (w : World) (g : Nat) (t : TypeId) (cs : Array Value) (d : TypeDesc)
    (hp : tmps.getD p undef = .pointer (some ⟨g, 0, none⟩)) (hg : Blk w g t cs)
    (hu : P.underlying ty = some d) (hd : (match d with | .struct _ | .array _ _ => true | _ => false) = true) (hi : (P.info? ty).map (·.size) = some cs.size) :
    (results fn tmps).run P w = .ok (.tuple #[.agg cs, tmps.getD u undef]) w := by
 rw [results_cell_tmp h, hp]
 simp [asAddr, run_loadVar_row w g t ty cs (0, 0) d hg hu hd hi, Result.andThen]
def polyAt (p : Int) (k n : Nat) : List Int := dig n p k ++ [1]
structure SizeOk (q p : Int) (k : Nat) : Prop where
 lo : 2 ≤ p
 hi : p ≤ 64
 k1 : 1 ≤ k
 k6 : k ≤ 6
 pow : p ^ k = q
 some_ : ∃ n : Nat, n < 64 ∧ irr (polyAt p k n) p = true
end Go.Proofs.YtgfcbmflnldicaaGreat
namespace Go.Proofs.YtgfcbmflnldicaaGreat
open Go.RowKit
theorem OwnSH.belw {w w' : World} {B hi : Nat} {v : Value} {xss : List (List Int)} (h : OwnSH w B hi v xss) (hb : Below w.heap.size w w') (hh : hi ≤ w.heap.size) : OwnSH w' B hi v xss := h.kp (Kp.below hb hh)
theorem copyLists_any (a : Option Addr) (c : Nat) (xss : List (List Int)) (w : World) (hx : RdS w a xss) :
    Calls Tryz.prog 94 #[.slice a xss.length c] w fun e w' => ∃ v, e = .returned v ∧ OwnS w' w.heap.size v xss ∧ Below w.heap.size w w' := by
 have hxl := hx.len
 go_enter Tryz.func94, Tryz.ntmps94
 go_wp2
 go_loopw [3, 8] (fun v iv wr => ∃ (k : Nat), iv = .int .i64 k ∧ k ≤ xss.length ∧ Hid (OwnS wr w.heap.size v (xss.take k)) ∧ Below w.heap.size w wr) (fun _ iv _ => xss.length - (intOf iv).toNat)
 case atStart => exact ⟨0, rfl, Nat.zero_le _, OwnS.nil _ _, Below.refl _ _⟩
 case round =>
  obtain ⟨k, rfl, hk, ho, hb⟩ := hrel
  have hsz := hb.size
  by_cases hkl : k < xss.length
  · obtain ⟨b1, o1, rfl, _, hc⟩ := (hx.below hb).at_ (by omega)
    obtain ⟨ai, ci, h1, hr⟩ := hc k hkl
    have htk := take_nthL hkl
    have htl : (xss.take k).length = k := by rw [List.length_take]; omega
    generalize nthL xss k = row at h1 hr htk
    have HTK := Lib.hid htk
    have HTL := Lib.hid htl
    clear hc htk htl
    go_wp2_with fail
    refine (clone_any ai ci row wr hr).mono ?_
    rintro e w1 ⟨v1, rfl, o1, b1⟩
    obtain ⟨a1, c1, rfl, _, _⟩ := o1.form
    have hH := ho.out.toH.belw b1 (Nat.le_refl _)
    have hs1 := b1.size
    have hb1 := hb.trans (b1.mono hsz)
    go_wp2_with (at_builtin; refine wpList_append_row rfl (.tmp 12) (.tmp 15) rfl (v := u3) rfl (hH.belw ((Below.refl _ _).alloc (Nat.le_refl _) _) hs1) _ rfl ((Blk.new w1 24 #[.slice a1 row.length c1] rfl).cell 0) (o1.alloc _) hsz (by simp; omega) (by rw [HTL.out]; omega) ?_; intro v2 w2 o2 g2 _)
    go_roundw
    case rel =>
     refine ⟨k + 1, by go_num, by omega, ?_, Below.stepS (hb1.alloc (by omega) _) g2 (hH.belw ((Below.refl _ _).alloc (Nat.le_refl _) _) hs1).own (Nat.le_refl _) (by simp; omega)⟩
     show OwnS _ _ _ _
     rw [HTK.out]
     exact o2
    case measure => simp only [intOf]; omega
  · have hke : k = xss.length := by omega
    have HE := Lib.hid hke
    clear hke
    go_wp2
    go_ret
    exact ⟨_, rfl, by have o := ho.out; rw [HE.out, List.take_length] at o; exact o, hb⟩
theorem l17Own_any (a : Option Addr) (c : Nat) (xss : List (List Int)) (w : World) (hx : RdS w a xss) :
    Calls Tryz.prog 165 #[.slice a xss.length c] w fun e w' => ∃ v, e = .returned v ∧ OwnS w' w.heap.size v xss ∧ Below w.heap.size w w' := by
 have hxl := hx.len
 go_enter Tryz.func165, Tryz.ntmps165
 go_wp2
 go_loopw [3, 4] (fun v iv wr => ∃ (k : Nat), iv = .int .i64 k ∧ k ≤ xss.length ∧ Hid (OwnS wr w.heap.size v (xss.take k)) ∧ Below w.heap.size w wr) (fun _ iv _ => xss.length - (intOf iv).toNat)
 case atStart => exact ⟨0, rfl, Nat.zero_le _, OwnS.empty w (Nat.le_refl _), (Below.refl _ _).alloc (Nat.le_refl _) _⟩
 case round =>
  obtain ⟨k, rfl, hk, ho, hb⟩ := hrel
  have hsz := hb.size
  by_cases hkl : k < xss.length
  · obtain ⟨b1, o1, rfl, _, hc⟩ := (hx.below hb).at_ (by omega)
    obtain ⟨ai, ci, h1, hr⟩ := hc k hkl
    have htk := take_nthL hkl
    have htl : (xss.take k).length = k := by rw [List.length_take]; omega
    generalize nthL xss k = row at h1 hr htk
    have HTK := Lib.hid htk
    have HTL := Lib.hid htl
    clear hc htk htl
    go_wp2_with fail
    refine (l00Own_any ai ci row wr hr).mono ?_
    rintro e w1 ⟨v1, rfl, o1, b1⟩
    obtain ⟨a1, c1, rfl, _, _⟩ := o1.form
    have hH := ho.out.toH.belw b1 (Nat.le_refl _)
    have hs1 := b1.size
    have hb1 := hb.trans (b1.mono hsz)
    go_wp2_with (at_builtin; refine wpList_append_row rfl (.tmp 12) (.tmp 18) rfl (v := u3) rfl (hH.belw ((Below.refl _ _).alloc (Nat.le_refl _) _) hs1) _ rfl ((Blk.new w1 24 #[.slice a1 row.length c1] rfl).cell 0) (o1.alloc _) hsz (by simp; omega) (by rw [HTL.out]; omega) ?_; intro v2 w2 o2 g2 _)
    go_roundw
    case rel =>
     refine ⟨k + 1, by go_num, by omega, ?_, Below.stepS (hb1.alloc (by omega) _) g2 (hH.belw ((Below.refl _ _).alloc (Nat.le_refl _) _) hs1).own (Nat.le_refl _) (by simp; omega)⟩
     show OwnS _ _ _ _
     rw [HTK.out]
     exact o2
    case measure => simp only [intOf]; omega
  · have hke : k = xss.length := by omega
    have HE := Lib.hid hke
    clear hke
    go_wp2
    go_ret
    exact ⟨_, rfl, by have o := ho.out; rw [HE.out, List.take_length] at o; exact o, hb⟩
end Go.Proofs.YtgfcbmflnldicaaGreat
namespace Go.Proofs.YtgfcbmflnldicaaGreat
open Go.RowKit
def OwnSQ (w : World) (B : Nat) (v : Value) (xss : List (List Int)) (Q : Value → Prop) : Prop :=
 xss.length ≤ 1073741824 ∧ ∃ vs : List Value, w.ownsRow B 24 1 v xss.length vs ∧ Inner w B vs xss ∧ ∀ (i : Nat) (x : Value), vs[i]? = some x → Q x
section
variable {w w' : World} {B hi g n c : Nat} {v : Value} {yss : List (List Int)} {Q Q' : Value → Prop}
theorem OwnSQ.own (h : OwnSQ w B v yss Q) : OwnS w B v yss := by
 obtain ⟨hl, vs, hr, hin, _⟩ := h
 exact ⟨hl, vs, hr, hin⟩
theorem OwnSQ.imp (h : OwnSQ w B v yss Q) (hq : ∀ x, (∀ k, x.ownBlock = some k → k < w.heap.size) → Q x → Q' x) : OwnSQ w B v yss Q' := by
 obtain ⟨hl, vs, hr, hin, hQ⟩ := h
 exact ⟨hl, vs, hr, hin, fun i x hx => hq x (fun k hk => ((hin.2.1 i x hx).lt k hk).2) (hQ i x hx)⟩
theorem OwnS.toQ (h : OwnS w B v yss) (hq : ∀ x, (∀ k, x.ownBlock = some k → B ≤ k ∧ k < w.heap.size) → Q x) : OwnSQ w B v yss Q := by
 obtain ⟨hl, vs, hr, hin⟩ := h
 exact ⟨hl, vs, hr, hin, fun i x hx => hq x (fun k hk => (hin.2.1 i x hx).lt k hk)⟩
theorem OwnSQ.below (h : OwnSQ w B v yss Q) (hb : Below w.heap.size w w') : OwnSQ w' B v yss Q := by
 obtain ⟨hl, vs, hr, hin, hQ⟩ := h
 exact ⟨hl, vs, ownsRow_below hr hb (Nat.le_refl _), hin.below hb (Nat.le_refl _), hQ⟩
theorem OwnSQ.grow (h : OwnSQ w B v yss Q) {u : Value} {B' : Nat} {us : List Int} (hu : Own w B' u us) (hg : w.grownBy w' u.ownBlock) (hq : ∀ x, Q x → ∀ k, x.ownBlock = some k → u.ownBlock ≠ some k) : OwnSQ w' B v yss Q := by
 obtain ⟨hl, vs, hr, hin, hQ⟩ := h
 refine ⟨hl, vs, hr.kept hg ?_, ⟨hin.1, fun i x hx => (hin.2.1 i x hx).grow hg ?_, hin.2.2⟩, hQ⟩
 · rcases hub : u.ownBlock with _ | k
   · rcases hv : v.ownBlock with _ | k
     · exact .inl rfl
     · exact .inr (by simp)
   · refine .inr fun e => ?_
     exact Own.notSliceBlock hr hu k hub e
 · rcases hxb : x.ownBlock with _ | k
   · exact .inl rfl
   · exact .inr fun e => hq x (hQ i x hx) k hxb e.symm
theorem OwnSQ.row (h : OwnSQ w B v yss Q) {i : Nat} (hi : i < yss.length) :
    ∃ a c, Own w B (.slice a (nthL yss i).length c) (nthL yss i) ∧ Q (.slice a (nthL yss i).length c) ∧
     (∀ b off m d, v = .slice (some ⟨b, off, none⟩) m d → w.cell? ⟨b, off + i, none⟩ = some (.slice a (nthL yss i).length c)) ∧
     (∀ w' ys, Own w' B (.slice a (nthL yss i).length c) ys → ys.length = (nthL yss i).length → w.grownBy w' (Value.ownBlock (.slice a (nthL yss i).length c)) → OwnSQ w' B v (yss.set i ys) Q) ∧
     (∀ j a' c', j < yss.length → j ≠ i → (∀ b off m d, v = .slice (some ⟨b, off, none⟩) m d → w.cell? ⟨b, off + j, none⟩ = some (.slice a' (nthL yss j).length c')) → v.ownBlock ≠ none → ∀ k, Value.ownBlock (.slice a' (nthL yss j).length c') = some k → Value.ownBlock (.slice a (nthL yss i).length c) ≠ some k) := by
 obtain ⟨hl, vs, hr, hin, hQ⟩ := h
 have hil : i < vs.length := by rw [hin.1]; exact hi
 have hgi := List.getElem?_eq_getElem hil
 have ho := hin.2.1 i _ hgi
 obtain ⟨a, c, e, _, _⟩ := ho.form
 rw [e] at ho hgi
 have hne : ∀ k, Value.ownBlock (.slice a (nthL yss i).length c) = some k → v.ownBlock ≠ some k := Own.notSliceBlock hr ho
 have cellv : ∀ (q : Nat) (b off m d : Nat), q < vs.length → v = .slice (some ⟨b, off, none⟩) m d → w.cell? ⟨b, off + q, none⟩ = vs[q]? := by
  intro q b off m d hq hvv
  have hr2 := hr
  rcases hr.2 with ⟨rfl, _⟩ | ⟨g, cap, cur, rfl, _⟩
  · injection hvv with h0 _ _; cases h0
  · injection hvv with h0 _ _
    injection h0 with h0
    injection h0 with h1 h2
    subst h1; subst h2
    rw [Nat.zero_add]
    exact hr2.cellAt q (by have := hin.1; omega)
 refine ⟨a, c, ho, hQ i _ hgi, fun b off m d hvv => by rw [cellv i b off m d hil hvv, hgi], ?_, ?_⟩
 · intro w' ys ho' hyl hg
   refine ⟨by simpa using hl, vs, ?_, ⟨by simpa using hin.1, fun j x hx => ?_, hin.2.2⟩, hQ⟩
   · rw [List.length_set]
     refine hr.kept hg ?_
     rcases hx : v.ownBlock with _ | k
     · exact .inl rfl
     · exact .inr fun e2 => hne k e2.symm hx
   · by_cases hj : j = i
     · subst hj
       rw [hgi] at hx
       injection hx with hx
       subst hx
       rw [nthL_set_same hi]
       exact ho'
     · rw [nthL_set_ne (Ne.symm hj)]
       refine (hin.2.1 j x hx).grow hg ?_
       rcases hxb : x.ownBlock with _ | k
       · exact .inl rfl
       · exact .inr fun e2 => hin.2.2 i j _ _ k (Ne.symm hj) hgi hx e2.symm hxb
 · intro j a' c' hj hji hcell hv0 k hk hk2
   have hjl : j < vs.length := by rw [hin.1]; exact hj
   rcases hr.2 with ⟨rfl, h0⟩ | ⟨g, cap, cur, rfl, _⟩
   · exact hv0 rfl
   · have h1 := hcell g 0 _ _ rfl
     rw [cellv j g 0 _ _ hjl rfl] at h1
     exact hin.2.2 i j _ _ k (Ne.symm hji) hgi h1 hk2 hk
theorem OwnSQ.put (h : OwnSQ w B (.slice (some ⟨g, 0, none⟩) n c) yss Q) {r : Value} {ys : List Int} (hr : Own w hi r ys) (hB : B ≤ hi)
    (hlow : ∀ x, Q x → ∀ k, x.ownBlock = some k → k < hi) (hq : Q' r) (hQQ : ∀ x, Q x → Q' x) {j : Nat} (hj : j < yss.length) :
    OwnSQ (w.setCell ⟨g, j, none⟩ r) B (.slice (some ⟨g, 0, none⟩) n c) (yss.set j ys) Q' ∧ w.grownBy (w.setCell ⟨g, j, none⟩ r) (some g) := by
 have e := h.own.len
 subst e
 obtain ⟨hl, vs, ho, hin, hQ⟩ := h
 obtain ⟨h1, h2⟩ := ho.stored j r
 have row : ∀ (x : Value) (B2 : Nat) (xs : List Int), Own w B2 x xs → Own (w.setCell ⟨g, j, none⟩ r) B2 x xs := fun x B2 xs hx => row_grow ho h2 hx
 have cas : ∀ (q : Nat) (z : Value), (vs.set j r)[q]? = some z → (q = j ∧ z = r) ∨ (q ≠ j ∧ vs[q]? = some z) := fun q z hz => by
  by_cases e : q = j
  · subst e
    rw [List.getElem?_set_self (by rw [hin.1]; exact hj)] at hz
    injection hz with hz
    exact .inl ⟨rfl, hz.symm⟩
  · rw [List.getElem?_set_ne (Ne.symm e)] at hz
    exact .inr ⟨e, hz⟩
 refine ⟨⟨by simpa using hl, vs.set j r, by rw [List.length_set]; exact h1, ⟨by simp [hin.1], fun i x hx => ?_, fun i k x y b hik hx hy hxb hyb => ?_⟩, fun i x hx => ?_⟩, h2⟩
 · rcases cas i x hx with ⟨rfl, rfl⟩ | ⟨e1, e2⟩
   · rw [nthL_set_same hj]; exact (row _ _ _ hr).mono hB
   · rw [nthL_set_ne (Ne.symm e1)]; exact row _ _ _ (hin.2.1 i x e2)
 · rcases cas i x hx with ⟨e1, e2⟩ | ⟨e1, e2⟩ <;> rcases cas k y hy with ⟨f1, f2⟩ | ⟨f1, f2⟩
   · omega
   · subst e2
     have a1 := (hr.lt b hxb).1
     have a2 := hlow y (hQ k y f2) b hyb
     omega
   · subst f2
     have a1 := (hr.lt b hyb).1
     have a2 := hlow x (hQ i x e2) b hxb
     omega
   · exact hin.2.2 i k x y b hik e2 f2 hxb hyb
 · rcases cas i x hx with ⟨rfl, rfl⟩ | ⟨e1, e2⟩
   · exact hq
   · exact hQQ x (hQ i x e2)
theorem OwnSQ.put2 (h : OwnSQ w B (.slice (some ⟨g, 0, none⟩) n c) yss Q) {r y : Value} {ys : List Int} (hr : Own w hi r ys) (hB : B ≤ hi)
    (hlow : ∀ x, Q x → ∀ k, x.ownBlock = some k → k < hi) (hq : Q' r) (hQQ : ∀ x, Q x → Q' x) {i t : Nat} (hi' : i < yss.length) (ht : t < yss.length) (hy : w.cell? ⟨g, t, none⟩ = some y) :
    OwnSQ ((w.setCell ⟨g, i, none⟩ y).setCell ⟨g, t, none⟩ r) B (.slice (some ⟨g, 0, none⟩) n c) ((yss.set i (nthL yss t)).set t ys) Q' ∧ w.grownBy ((w.setCell ⟨g, i, none⟩ y).setCell ⟨g, t, none⟩ r) (some g) := by
 have e := h.own.len
 subst e
 obtain ⟨hl, vs, ho, hin, hQ⟩ := h
 have vy : vs[t]? = some y := by rw [← ho.cellAt t (by omega)]; exact hy
 obtain ⟨h1, h2⟩ := ho.stored i y
 obtain ⟨h3, h4⟩ := h1.stored t r
 have row : ∀ (z : Value) (B2 : Nat) (xs : List Int), Own w B2 z xs → Own ((w.setCell ⟨g, i, none⟩ y).setCell ⟨g, t, none⟩ r) B2 z xs := fun z B2 xs hz => row_grow h1 h4 (row_grow ho h2 hz)
 have hil : i < vs.length := by rw [hin.1]; exact hi'
 have htl : t < vs.length := by rw [hin.1]; exact ht
 have cas : ∀ (q : Nat) (z : Value), ((vs.set i y).set t r)[q]? = some z → (q = t ∧ z = r) ∨ ∃ q', vs[q']? = some z ∧ q ≠ t ∧ ((q = i ∧ q' = t) ∨ (q ≠ i ∧ q' = q)) := fun q z hz => by
  by_cases e : q = t
  · subst e
    rw [List.getElem?_set_self (by rw [List.length_set]; exact htl)] at hz
    injection hz with hz
    exact .inl ⟨rfl, hz.symm⟩
  · rw [List.getElem?_set_ne (Ne.symm e)] at hz
    by_cases e2 : q = i
    · subst e2
      rw [List.getElem?_set_self hil] at hz
      injection hz with hz
      subst hz
      exact .inr ⟨t, vy, e, .inl ⟨rfl, rfl⟩⟩
    · rw [List.getElem?_set_ne (Ne.symm e2)] at hz
      exact .inr ⟨q, hz, e, .inr ⟨e2, rfl⟩⟩
 refine ⟨⟨by simpa using hl, (vs.set i y).set t r, by simpa using h3, ⟨by simp [hin.1], fun q z hz => ?_, fun q k z u b hqk hz hu hzb hub => ?_⟩, fun q z hz => ?_⟩, grown_trans_row h2 h4⟩
 · rcases cas q z hz with ⟨rfl, rfl⟩ | ⟨q', hq, hne, hc⟩
   · rw [nthL_set_same (by rw [List.length_set]; exact ht)]
     exact (row _ _ _ hr).mono hB
   · have o := row _ _ _ (hin.2.1 q' z hq)
     rcases hc with ⟨rfl, rfl⟩ | ⟨h1, rfl⟩
     · rw [nthL_set_ne (Ne.symm hne), nthL_set_same hi']; exact o
     · rw [nthL_set_ne (Ne.symm hne), nthL_set_ne (Ne.symm h1)]; exact o
 · rcases cas q z hz with ⟨rfl, rfl⟩ | ⟨q', hqv, hne, hc⟩ <;> rcases cas k u hu with ⟨rfl, rfl⟩ | ⟨k', hk, hke, hd⟩
   · omega
   · have a1 := (hr.lt b hzb).1
     have a2 := hlow u (hQ k' u hk) b hub
     omega
   · have a1 := (hr.lt b hub).1
     have a2 := hlow z (hQ q' z hqv) b hzb
     omega
   · exact hin.2.2 q' k' z u b (by omega) hqv hk hzb hub
 · rcases cas q z hz with ⟨rfl, rfl⟩ | ⟨q', hq', _, _⟩
   · exact hq
   · exact hQQ z (hQ q' z hq')
theorem OwnSQ.swap (h : OwnSQ w B (.slice (some ⟨g, 0, none⟩) n c) yss Q) {i j : Nat} (hi : i < yss.length) (hj : j < yss.length) (hij : i ≠ j) {x y : Value} (hx : w.cell? ⟨g, i, none⟩ = some x) (hy : w.cell? ⟨g, j, none⟩ = some y) :
    OwnSQ ((w.setCell ⟨g, i, none⟩ y).setCell ⟨g, j, none⟩ x) B (.slice (some ⟨g, 0, none⟩) n c) ((yss.set i (nthL yss j)).set j (nthL yss i)) Q ∧ w.grownBy ((w.setCell ⟨g, i, none⟩ y).setCell ⟨g, j, none⟩ x) (some g) := by
 have e := h.own.len
 subst e
 obtain ⟨hl, vs, ho, hin, hQ⟩ := h
 have vx : vs[i]? = some x := by rw [← ho.cellAt i (by omega)]; exact hx
 have vy : vs[j]? = some y := by rw [← ho.cellAt j (by omega)]; exact hy
 obtain ⟨h1, h2⟩ := ho.stored i y
 obtain ⟨h3, h4⟩ := h1.stored j x
 have row : ∀ (z : Value) (B2 : Nat) (xs : List Int), Own w B2 z xs → Own ((w.setCell ⟨g, i, none⟩ y).setCell ⟨g, j, none⟩ x) B2 z xs := fun z B2 xs hz => row_grow h1 h4 (row_grow ho h2 hz)
 have hil : i < vs.length := by rw [hin.1]; exact hi
 have hjl : j < vs.length := by rw [hin.1]; exact hj
 have cas : ∀ (q : Nat) (z : Value), ((vs.set i y).set j x)[q]? = some z → ∃ q', vs[q']? = some z ∧ ((q = j ∧ q' = i) ∨ (q = i ∧ q ≠ j ∧ q' = j) ∨ (q ≠ i ∧ q ≠ j ∧ q' = q)) := fun q z hz => by
  by_cases e : q = j
  · subst e
    rw [List.getElem?_set_self (by rw [List.length_set]; exact hjl)] at hz
    injection hz with hz
    subst hz
    exact ⟨i, vx, .inl ⟨rfl, rfl⟩⟩
  · rw [List.getElem?_set_ne (Ne.symm e)] at hz
    by_cases e2 : q = i
    · subst e2
      rw [List.getElem?_set_self hil] at hz
      injection hz with hz
      subst hz
      exact ⟨j, vy, .inr (.inl ⟨rfl, e, rfl⟩)⟩
    · rw [List.getElem?_set_ne (Ne.symm e2)] at hz
      exact ⟨q, hz, .inr (.inr ⟨e2, e, rfl⟩)⟩
 refine ⟨⟨by simpa using hl, (vs.set i y).set j x, by simpa using h3, ⟨by simp [hin.1], fun q z hz => ?_, fun q k z u b hqk hz hu hzb hub => ?_⟩, fun q z hz => ?_⟩, grown_trans_row h2 h4⟩
 · obtain ⟨q', hq, hc⟩ := cas q z hz
   have o := row _ _ _ (hin.2.1 q' z hq)
   rcases hc with ⟨rfl, rfl⟩ | ⟨rfl, hne, rfl⟩ | ⟨h1, h2, rfl⟩
   · rw [nthL_set_same (by rw [List.length_set]; exact hj)]; exact o
   · rw [nthL_set_ne (Ne.symm hne), nthL_set_same hi]; exact o
   · rw [nthL_set_ne (Ne.symm h2), nthL_set_ne (Ne.symm h1)]; exact o
 · obtain ⟨q', hq, hc⟩ := cas q z hz
   obtain ⟨k', hk, hd⟩ := cas k u hu
   exact hin.2.2 q' k' z u b (by omega) hq hk hzb hub
 · obtain ⟨q', hq, _⟩ := cas q z hz
   exact hQ q' z hq
end
end Go.Proofs.YtgfcbmflnldicaaGreat
namespace Go.Proofs.YtgfcbmflnldicaaGreat
open Go.RowKit
theorem Blk.grown {w w' : World} {g : Nat} {t : TypeId} {cs : Array Value} {row : Option Nat} (h : Blk w g t cs) (hg : w.grownBy w' row) (hne : row ≠ some g) : Blk w' g t cs := (hg.block g h.lt (Ne.symm hne)).trans h
end Go.Proofs.YtgfcbmflnldicaaGreat
namespace Go.Proofs.YtgfcbmflnldicaaGreat
open Go.RowKit
theorem capTo_anti {b l : Int} {j k : Nat} (hjk : j ≤ k) (h : capTo b l k ≤ l) : capTo b l j ≤ l := by
 rcases Int.lt_or_le l (capTo b l j) with h1 | h1
 · have := capTo_stop (b := b) (l := l) (k := j) (by omega) k hjk
   omega
 · exact h1
end Go.Proofs.YtgfcbmflnldicaaGreat
namespace Go.Proofs.YtgfcbmflnldicaaGreat
open Go.RowKit
def suppTo (xs : List Int) (k : Nat) : List Int := ((List.range k).filter (fun i => nth xs i != 0)).map Int.ofNat
theorem suppTo_hit {xs : List Int} {k : Nat} (h : (nth xs k != 0) = true) : suppTo xs (k + 1) = suppTo xs k ++ [(k : Int)] := by
 simp only [suppTo, List.range_succ, List.filter_append, List.map_append, List.filter_cons, h]; rfl
theorem suppTo_miss {xs : List Int} {k : Nat} (h : (nth xs k != 0) = false) : suppTo xs (k + 1) = suppTo xs k := by
 simp [suppTo, List.range_succ, List.filter_append, h]
theorem suppTo_len (xs : List Int) (k : Nat) : (suppTo xs k).length ≤ k := by
 simp only [suppTo, List.length_map]
 exact Nat.le_trans (List.length_filter_le _ _) (by simp)
theorem l20Support_any (a : Option Addr) (c : Nat) (xs : List Int) (w : World) (hx : Rd w a xs) :
    Calls Tryz.prog 127 #[.slice a xs.length c] w fun e w' => ∃ v, e = .returned v ∧ Own w' w.heap.size v (suppTo xs xs.length) ∧ Below w.heap.size w w' := by
 have hxl := hx.len
 go_enter Tryz.func127, Tryz.ntmps127
 go_wp2
 go_loopw [3, 4] (fun v i wr => ∃ (k : Nat), i = .int .i64 k ∧ k ≤ xs.length ∧ Own wr w.heap.size v (suppTo xs k) ∧ Below w.heap.size w wr) (fun _ i _ => xs.length - (intOf i).toNat)
 case atStart => exact ⟨0, rfl, by omega, Own.empty w (Nat.le_refl _), (Below.refl _ _).alloc (Nat.le_refl _) _⟩
 case round =>
  obtain ⟨k, rfl, hk, ho, hb⟩ := hrel
  by_cases hkl : k < xs.length
  · obtain ⟨b1, o1, rfl, hb1, hcx⟩ := hx.at_ (by omega)
    have hx1 := (hb.cell (p := ⟨b1, o1 + k, none⟩) hb1).trans (hcx k hkl)
    have hs := suppTo_len xs k
    have hsz := hb.size
    clear hcx hx
    go_wp2_with (at_builtin; refine wpList_append_ints rfl (.tmp 17) (.tmp 19) rfl w.heap.size u3 (suppTo xs k) [(k : Int)] rfl (ho.alloc _) _ 1 1 rfl rfl (Rd.one wr (k : Int) _) (by simp; omega) (by simp; omega) ?_; intro v1 w1 hown1 hg1 _)
    · go_roundw
      case rel => exact ⟨k + 1, by go_num, by omega, by rw [suppTo_hit ‹_›]; exact hown1, Below.step (hb.alloc hsz _) hg1 (ho.alloc _) (Nat.le_refl _) (by simp; omega)⟩
      case measure => simp [intOf]; omega
    · go_roundw
      case rel => exact ⟨k + 1, by go_num, by omega, by rw [suppTo_miss ‹_›]; exact ho, hb⟩
      case measure => simp [intOf]; omega
  · go_wp2
    go_ret
    obtain rfl : k = xs.length := by omega
    exact ⟨_, rfl, ho, hb⟩
theorem supportOf_any (a : Option Addr) (c : Nat) (xs : List Int) (w : World) (hx : Rd w a xs) :
    Calls Tryz.prog 171 #[.slice a xs.length c] w fun e w' => ∃ v, e = .returned v ∧ Own w' w.heap.size v (suppTo xs xs.length) ∧ Below w.heap.size w w' := by
 have hxl := hx.len
 go_enter Tryz.func171, Tryz.ntmps171
 go_wp2
 go_loopw [3, 8] (fun v i wr => ∃ (k : Nat), i = .int .i64 k ∧ k ≤ xs.length ∧ Own wr w.heap.size v (suppTo xs k) ∧ Below w.heap.size w wr) (fun _ i _ => xs.length - (intOf i).toNat)
 case atStart => exact ⟨0, rfl, by omega, Own.nil _ _, Below.refl _ _⟩
 case round =>
  obtain ⟨k, rfl, hk, ho, hb⟩ := hrel
  by_cases hkl : k < xs.length
  · obtain ⟨b1, o1, rfl, hb1, hcx⟩ := hx.at_ (by omega)
    have hx1 := (hb.cell (p := ⟨b1, o1 + k, none⟩) hb1).trans (hcx k hkl)
    have hs := suppTo_len xs k
    have hsz := hb.size
    clear hcx hx
    go_wp2_with (at_builtin; refine wpList_append_ints rfl (.tmp 15) (.tmp 17) rfl w.heap.size u3 (suppTo xs k) [(k : Int)] rfl (ho.alloc _) _ 1 1 rfl rfl (Rd.one wr (k : Int) _) (by simp; omega) (by simp; omega) ?_; intro v1 w1 hown1 hg1 _)
    · go_roundw
      case rel => exact ⟨k + 1, by go_num, by omega, by rw [suppTo_hit ‹_›]; exact hown1, Below.step (hb.alloc hsz _) hg1 (ho.alloc _) (Nat.le_refl _) (by simp; omega)⟩
      case measure => simp [intOf]; omega
    · go_roundw
      case rel => exact ⟨k + 1, by go_num, by omega, by rw [suppTo_miss ‹_›]; exact ho, hb⟩
      case measure => simp [intOf]; omega
  · go_wp2
    go_ret
    obtain rfl : k = xs.length := by omega
    exact ⟨_, rfl, ho, hb⟩
end Go.Proofs.YtgfcbmflnldicaaGreat
namespace Go.Proofs.YtgfcbmflnldicaaGreat
open Go.RowKit
theorem markH_any (B hi : Nat) (v : Value) (k : Int) (xs : List Int) (w : World) (hx : OwnH w B hi v xs) (hB : B ≤ w.heap.size) (hk0 : 0 ≤ k) (hk1 : k ≤ 9000000000000000000) :
    Calls Tryz.prog 28 #[v, .int .i64 k] w fun e w' => e = .returned (.int .i64 (k + xs.length)) ∧ OwnH w' B hi v (marked k xs.length) ∧ w.grownBy w' v.ownBlock ∧ Mk w w' B hi := by
 refine (markInt64S_any v k xs B w hx.1 hk0 hk1).mono ?_
 rintro e w' ⟨rfl, ho, hg⟩
 exact ⟨rfl, ⟨ho, hx.2⟩, hg, Mk.grown hg hx.2 hB⟩
def mkTo (k : Int) (xss : List (List Int)) (i : Nat) : List (List Int) := (markS k (xss.map List.length)).take i ++ xss.drop i
theorem mkTo_len (k : Int) (xss : List (List Int)) {i : Nat} (hi : i ≤ xss.length) : (mkTo k xss i).length = xss.length := by
 rw [mkTo, List.length_append, List.length_take, markS_len, List.length_map, List.length_drop]; omega
theorem mkTo_next {k : Int} {xss : List (List Int)} {i : Nat} (hi : i < xss.length) : nthL (mkTo k xss i) i = nthL xss i := by
 rw [mkTo, nthL, List.getD_eq_getElem?_getD, List.getElem?_append_right (by rw [List.length_take, markS_len, List.length_map]; omega), List.length_take, markS_len, List.length_map, Nat.min_eq_left (by omega), Nat.sub_self, List.getElem?_drop, ← List.getD_eq_getElem?_getD]
 rfl
theorem mkTo_succ {k : Int} {xss : List (List Int)} {i : Nat} (hi : i < xss.length) : (mkTo k xss i).set i (marked (k + (((xss.map List.length).take i).sum : Nat)) (nthL xss i).length) = mkTo k xss (i + 1) := by
 have hm := markS_nth k (xss.map List.length) i (by simpa using hi)
 have hl : (xss.map List.length).getD i 0 = (nthL xss i).length := by simp [nthL, List.getD_eq_getElem?_getD, hi]
 rw [hl] at hm
 have hlen : i < (markS k (xss.map List.length)).length := by rw [markS_len]; simpa using hi
 rw [mkTo, mkTo, List.set_append_right _ _ (by rw [List.length_take, markS_len, List.length_map]; omega), List.length_take, markS_len, List.length_map, Nat.min_eq_left (by omega), Nat.sub_self, ← hm, List.drop_eq_getElem_cons hi, List.set_cons_zero, take_nthL hlen, List.append_assoc]
 rfl
theorem lens_take (xss : List (List Int)) {i : Nat} (hi : i < xss.length) : ((xss.map List.length).take (i + 1)).sum = ((xss.map List.length).take i).sum + (nthL xss i).length := by
 rw [sum_take_succ _ (by simpa using hi)]
 congr 1
 simp [nthL, List.getD_eq_getElem?_getD, hi]
theorem markSS_any (B hi : Nat) (a : Option Addr) (n c : Nat) (k : Int) (xss : List (List Int)) (w : World) (hn : n = xss.length) (hx : OwnSH w B hi (.slice a n c) xss) (hB : B ≤ w.heap.size) (hk0 : 0 ≤ k) (hk1 : k + ((xss.map List.length).sum : Nat) ≤ 9000000000000000000) :
    Calls Tryz.prog 72 #[.slice a n c, .int .i64 k] w fun e w' => e = .returned (.int .i64 (k + ((xss.map List.length).sum : Nat))) ∧ OwnSH w' B hi (.slice a n c) (markS k (xss.map List.length)) ∧ Mk w w' B hi := by
 have hxl := hx.1
 subst hn
 go_enter Tryz.func72, Tryz.ntmps72
 go_wp2
 go_loopw [1, 5] (fun kv iv wr => ∃ (i s : Nat), iv = .int .i64 i ∧ kv = .int .i64 (k + s) ∧ i ≤ xss.length ∧ Hid (s = ((xss.map List.length).take i).sum) ∧ Hid (OwnSH wr B hi (.slice a xss.length c) (mkTo k xss i)) ∧ Hid (Mk w wr B hi)) (fun _ iv _ => xss.length - (intOf iv).toNat)
 case atStart => exact ⟨0, 0, rfl, by simp, Nat.zero_le _, by show _ = _; simp, hx, Mk.refl _ _ _⟩
 case round =>
  obtain ⟨i, s, rfl, rfl, hiL, hs, ho, hm⟩ := hrel
  by_cases hil : i < xss.length
  · have hsz := hm.out.size
    have hlen := mkTo_len k xss (i := i) (by omega)
    obtain ⟨ar, cr, hrow, hcell, hput⟩ := ho.out.row (i := i) (by rw [hlen]; exact hil)
    obtain ⟨b, off, rfl, hb, hc⟩ := ho.out.rd.at_ (by rw [hlen]; omega)
    have h1 := hcell b off _ _ rfl
    rw [mkTo_next hil] at h1 hrow hput
    obtain ⟨row, hrw⟩ : ∃ row, row = nthL xss i := ⟨_, rfl⟩
    have hst := lens_take xss hil
    have hts := sum_take_le (xss.map List.length) (i + 1)
    rw [← hrw] at h1 hrow hput hst
    have hmk := fun W h hB => markH_any B hi (.slice ar row.length cr) (k + s) row W h hB (by omega) (by have := hs.out; omega)
    have HMK := hide hmk
    have HST := Lib.hid hst
    have HRW := Lib.hid hrw
    have HLEN := Lib.hid hlen
    have hxl2 := hs
    clear hmk hcell hc hst hrw hts hlen
    go_wp2_with fail
    refine (unhide HMK wr hrow (by omega)).mono ?_
    rintro e w1 ⟨rfl, o1, g1, m1⟩
    have hres := hput w1 (marked (k + s) row.length) o1 (by rw [marked_len]) g1
    rw [hs.out, HRW.out, mkTo_succ hil] at hres
    have HRES := Lib.hid hres
    clear hres hput
    have hmm := hm.out.trans m1
    go_wp2_with fail
    go_roundw
    case rel => exact ⟨i + 1, s + row.length, by go_num, (by congr 1; omega), by omega, by show _ = _; rw [HST.out, hs.out], HRES.out, hmm⟩
    case measure => simp only [intOf]; omega
  · have hie : i = xss.length := by omega
    have HI := Lib.hid hie
    clear hie
    go_wp2
    go_ret
    have e1 := HI.out
    have e2 := hs.out
    have e3 := ho.out
    rw [e1, List.take_of_length_le (by simp)] at e2
    rw [e1, mkTo, List.take_of_length_le (by rw [markS_len]; simp), List.drop_length, List.append_nil] at e3
    exact ⟨ret_int (by rw [e2]), e3, hm.out⟩
theorem markField_any (B hi : Nat) (p d : Int) (a : Option Addr) (n c : Nat) (k : Int) (xs : List Int) (w : World) (hn : n = xs.length) (hx : OwnH w B hi (.slice a n c) xs) (hB : B ≤ w.heap.size) (hh : hi ≤ w.heap.size) (hk0 : 0 ≤ k) (hk1 : k ≤ 9000000000000000000) :
    Calls Tryz.prog 71 #[.agg #[.int .i64 p, .int .i64 d, .slice a n c], .int .i64 k] w fun e w' => e = .returned (.int .i64 (k + xs.length)) ∧ OwnH w' B hi (.slice a n c) (marked k xs.length) ∧ Mk w w' B hi := by
 subst hn
 obtain ⟨w0, hw0⟩ : ∃ w0, w0 = w.alloc (.cells #[.int .i64 p, .int .i64 d, .slice a xs.length c] 50) := ⟨_, rfl⟩
 have hb0 : Below w.heap.size w w0 := by rw [hw0]; exact (Below.refl _ _).alloc (Nat.le_refl _) _
 have k0 : Blk w0 w.heap.size 50 #[.int .i64 p, .int .i64 d, .slice a xs.length c] := by rw [hw0]; exact Blk.new _ _ _ rfl
 have s0 : w0.heap.size = w.heap.size + 1 := by rw [hw0]; simp
 have HW := Lib.hid hw0
 clear hw0
 have f2 : w0.cell? ⟨w.heap.size, 2, none⟩ = some (.slice a xs.length c) := k0.cell 2
 have hm := markH_any B hi (.slice a xs.length c) k xs w0 (hx.kp (Kp.below hb0 hh)) (by omega) hk0 hk1
 have HM := hide hm
 have h1 : 0 ≤ k + (xs.length : Int) := by omega
 clear hm
 go_enter Tryz.func71, Tryz.ntmps71
 go_wp2_with fail
 rw [← HW.out]
 refine (unhide HM).mono ?_
 rintro e w1 ⟨rfl, o1, g1, m1⟩
 go_wp2
 go_ret
 exact ⟨rfl, o1, (Mk.alloc hb0 hB).trans m1⟩
theorem markCode_any (B hi : Nat) (p d : Int) (a b : Option Addr) (n m c cb : Nat) (k : Int) (xs : List Int) (xss : List (List Int)) (w : World) (hn : n = xs.length) (hm : m = xss.length) (hx : OwnCH w B hi (.slice a n c) (.slice b m cb) xs xss) (hB : B ≤ w.heap.size) (hh : hi ≤ w.heap.size) (hk0 : 0 ≤ k) (hk1 : k + xs.length + ((xss.map List.length).sum : Nat) ≤ 9000000000000000000) :
    Calls Tryz.prog 22 #[.agg #[.int .i64 p, .int .i64 d, .slice a n c, .slice b m cb], .int .i64 k] w fun e w' => e = .returned (.int .i64 (k + xs.length + ((xss.map List.length).sum : Nat))) ∧ OwnCH w' B hi (.slice a n c) (.slice b m cb) (marked k xs.length) (markS (k + xs.length) (xss.map List.length)) ∧ Mk w w' B hi := by
 subst hn
 subst hm
 obtain ⟨M, hM1, hM2, hxF, hxS⟩ := hx
 obtain ⟨w0, hw0⟩ : ∃ w0, w0 = w.alloc (.cells #[.int .i64 p, .int .i64 d, .slice a xs.length c, .slice b xss.length cb] 52) := ⟨_, rfl⟩
 have hb0 : Below w.heap.size w w0 := by rw [hw0]; exact (Below.refl _ _).alloc (Nat.le_refl _) _
 have k0 : Blk w0 w.heap.size 52 #[.int .i64 p, .int .i64 d, .slice a xs.length c, .slice b xss.length cb] := by rw [hw0]; exact Blk.new _ _ _ rfl
 have s0 : w0.heap.size = w.heap.size + 1 := by rw [hw0]; simp
 have HW := Lib.hid hw0
 clear hw0
 have f0 : w0.cell? ⟨w.heap.size, 0, none⟩ = some (.int .i64 p) := k0.cell 0
 have f1 : w0.cell? ⟨w.heap.size, 1, none⟩ = some (.int .i64 d) := k0.cell 1
 have f2 : w0.cell? ⟨w.heap.size, 2, none⟩ = some (.slice a xs.length c) := k0.cell 2
 have hF := markField_any B M p d a xs.length c k xs w0 rfl (hxF.kp (Kp.below hb0 (by omega))) (by omega) (by omega) hk0 (by omega)
 have HF := hide hF
 clear hF
 go_enter Tryz.func22, Tryz.ntmps22
 go_wp2_with fail
 rw [← HW.out]
 refine (unhide HF).mono ?_
 rintro e w1 ⟨rfl, o1, m1⟩
 have s1 := m1.size
 have hS := markSS_any M hi b xss.length cb (k + xs.length) xss w1 rfl (hxS.kp ((Kp.below hb0 hh).trans (m1.kp (.inr (Nat.le_refl _)) (by omega)))) (by omega) (by omega) (by omega)
 have k1 := k0.kp (m1.kp (.inr (by omega)) (by omega))
 have f3 : w1.cell? ⟨w.heap.size, 3, none⟩ = some (.slice b xss.length cb) := k1.cell 3
 have HS := hide hS
 have h1 : 0 ≤ k + (xs.length : Int) := by omega
 clear hS f0 f1 f2
 go_wp2_with fail
 refine (unhide HS).mono ?_
 rintro e w2 ⟨rfl, o2, m2⟩
 go_wp2
 go_ret
 exact ⟨rfl, ⟨M, hM1, hM2, o1.kp (m2.kp (.inl (Nat.le_refl _)) (by omega)), o2⟩, ((Mk.alloc hb0 hB).trans (m1.wide (Nat.le_refl _) hM2)).trans (m2.wide hM1 (Nat.le_refl _))⟩
end Go.Proofs.YtgfcbmflnldicaaGreat
namespace Go.Proofs.YtgfcbmflnldicaaGreat
open Go.RowKit
theorem capTo_eq {b l : Int} (hb : 1 ≤ b) {m : Nat} (h : capTo b l m ≤ l) : capTo b l m = b ^ m := by
 induction m with
 | zero => simp [capTo]
 | succ m ih =>
  have h1 := capTo_anti (show m ≤ m + 1 by omega) h
  rw [capTo_go h1, ih h1, Int.pow_succ]
end Go.Proofs.YtgfcbmflnldicaaGreat
