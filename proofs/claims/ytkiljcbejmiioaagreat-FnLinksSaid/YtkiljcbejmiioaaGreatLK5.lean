/-
  Texts joined.
-/
import Derived.Test.YtkiljcbejmiioaaGreatLK1
set_option linter.unusedVariables false
set_option linter.unusedSimpArgs false
set_option maxRecDepth 100000
set_option maxHeartbeats 40000000
namespace Go.Proofs.YtkiljcbejmiioaaGreat
open Go.RowKit
def Kp (w w' : World) (lo hi : Nat) : Prop := w.heap.size ≤ w'.heap.size ∧ ∀ g, lo ≤ g → g < hi → w'.heap[g]? = w.heap[g]?
def Mk (w w' : World) (lo hi : Nat) : Prop := Below lo w w' ∧ ∀ g, hi ≤ g → g < w.heap.size → w'.heap[g]? = w.heap[g]?
section
variable {a b c w w' : World} {lo hi lo' hi' : Nat}
theorem Kp.refl (w : World) (lo hi : Nat) : Kp w w lo hi := ⟨Nat.le_refl _, fun _ _ _ => rfl⟩
theorem Kp.below (h : Below w.heap.size w w') (s : hi ≤ w.heap.size) : Kp w w' lo hi := ⟨h.size, fun g _ hg => h.block g (by omega)⟩
theorem Kp.trans (h : Kp a b lo hi) (k : Kp b c lo hi) : Kp a c lo hi := ⟨Nat.le_trans h.1 k.1, fun g h1 h2 => (k.2 g h1 h2).trans (h.2 g h1 h2)⟩
theorem Kp.sub (h : Kp a b lo hi) (h1 : lo ≤ lo') (h2 : hi' ≤ hi) : Kp a b lo' hi' := ⟨h.1, fun g a b => h.2 g (by omega) (by omega)⟩
theorem Mk.kp (h : Mk w w' lo hi) (d : hi' ≤ lo ∨ hi ≤ lo') (s : hi' ≤ w.heap.size) : Kp w w' lo' hi' :=
 ⟨h.1.size, fun g h1 h2 => by
  rcases d with d | d
  · exact h.1.block g (by omega)
  · exact h.2 g (by omega) (by omega)⟩
theorem Mk.refl (w : World) (lo hi : Nat) : Mk w w lo hi := ⟨Below.refl _ _, fun _ _ _ => rfl⟩
theorem Mk.trans (h : Mk a b lo hi) (k : Mk b c lo hi) : Mk a c lo hi := ⟨h.1.trans k.1, fun g h1 h2 => (k.2 g h1 (by have := h.1.size; omega)).trans (h.2 g h1 h2)⟩
theorem Mk.size (h : Mk w w' lo hi) : w.heap.size ≤ w'.heap.size := h.1.size
theorem Mk.grown {v : Value} (hg : w.grownBy w' v.ownBlock) (hi_ : In v lo hi) (hlo : lo ≤ w.heap.size) : Mk w w' lo hi :=
 ⟨Below.wrote hg hi_ hlo (Nat.le_refl _), fun g h1 h2 => hg.block g h2 (fun e => by have := hi_ g e.symm; omega)⟩
theorem Mk.alloc (h : Below w.heap.size w w') (h2 : lo ≤ w.heap.size) : Mk w w' lo hi := ⟨h.mono h2, fun g _ hg => h.block g hg⟩
end
theorem cell_block {w w' : World} {g : Nat} (h : w'.heap[g]? = w.heap[g]?) (i : Nat) : w'.cell? ⟨g, i, none⟩ = w.cell? ⟨g, i, none⟩ := by
 simp only [World.cell?]
 rw [h]
theorem Rd.kp {w w' : World} {a : Option Addr} {xs : List Int} (h : Rd w a xs) (k : Kp w w' 0 w.heap.size) : Rd w' a xs :=
 ⟨h.1, fun h0 => by
  obtain ⟨b, off, rfl, hb, hc⟩ := h.at_ h0
  exact ⟨b, off, rfl, fun i hi => (cell_block (k.2 b (Nat.zero_le _) hb) _).trans (hc i hi)⟩⟩
theorem RdS.kp {w w' : World} {a : Option Addr} {xss : List (List Int)} (h : RdS w a xss) (k : Kp w w' 0 w.heap.size) : RdS w' a xss :=
 ⟨h.1, fun h0 => by
  obtain ⟨b, off, rfl, hb, hc⟩ := h.at_ h0
  refine ⟨b, off, rfl, fun i hi => ?_⟩
  obtain ⟨ai, ci, h1, h2⟩ := hc i hi
  exact ⟨ai, ci, (cell_block (k.2 b (Nat.zero_le _) hb) _).trans h1, h2.kp k⟩⟩
theorem Blk.kp {w w' : World} {g : Nat} {t : TypeId} {cs : Array Value} (h : Blk w g t cs) (k : Kp w w' g (g + 1)) : Blk w' g t cs := (k.2 g (Nat.le_refl _) (by omega)).trans h
theorem ownsRow_kp {w w' : World} {B hi e size n : Nat} {v : Value} {vs : List Value} (h : w.ownsRow B e size v n vs) (hv : In v B hi) (k : Kp w w' B hi) : w'.ownsRow B e size v n vs := by
 obtain ⟨h1, h2⟩ := h
 refine ⟨h1, ?_⟩
 rcases h2 with h2 | ⟨g, cap, cur, rfl, hB, hg, r⟩
 · exact .inl h2
 · have := hv g rfl
   exact .inr ⟨g, cap, cur, rfl, hB, (k.2 g this.1 this.2).trans hg, r⟩
def OwnH (w : World) (B hi : Nat) (v : Value) (xs : List Int) : Prop := Own w B v xs ∧ In v B hi
theorem Own.toH {w : World} {B : Nat} {v : Value} {xs : List Int} (h : Own w B v xs) : OwnH w B w.heap.size v xs := ⟨h, h.lt⟩
theorem OwnH.kp {w w' : World} {B hi : Nat} {v : Value} {xs : List Int} (h : OwnH w B hi v xs) (k : Kp w w' B hi) : OwnH w' B hi v xs := ⟨⟨h.1.1, ownsRow_kp h.1.2 h.2 k⟩, h.2⟩
theorem OwnH.rd {w : World} {B hi : Nat} {a : Option Addr} {n c : Nat} {xs : List Int} (h : OwnH w B hi (.slice a n c) xs) : Rd w a xs := h.1.rd
def Bnd (B hi : Nat) (vs : List Value) : Prop := ∀ (i : Nat) (x : Value), vs[i]? = some x → In x B hi
def OwnSH (w : World) (B hi : Nat) (v : Value) (xss : List (List Int)) : Prop :=
 xss.length ≤ 1073741824 ∧ ∃ vs : List Value, w.ownsRow B 28 1 v xss.length vs ∧ Inner w B vs xss ∧ In v B hi ∧ Bnd B hi vs
theorem OwnS.toH {w : World} {B : Nat} {v : Value} {xss : List (List Int)} (h : OwnS w B v xss) : OwnSH w B w.heap.size v xss := by
 obtain ⟨hl, vs, hr, hi⟩ := h
 exact ⟨hl, vs, hr, hi, hr.lt, fun i x hx => (hi.2.1 i x hx).lt⟩
theorem OwnSH.own {w : World} {B hi : Nat} {v : Value} {xss : List (List Int)} (h : OwnSH w B hi v xss) : OwnS w B v xss := by
 obtain ⟨hl, vs, hr, hi, _⟩ := h
 exact ⟨hl, vs, hr, hi⟩
theorem OwnSH.kp {w w' : World} {B hi : Nat} {v : Value} {xss : List (List Int)} (h : OwnSH w B hi v xss) (k : Kp w w' B hi) : OwnSH w' B hi v xss := by
 obtain ⟨hl, vs, hr, hi, hv, hb⟩ := h
 exact ⟨hl, vs, ownsRow_kp hr hv k, ⟨hi.1, fun i x hx => (OwnH.kp (w := w) ⟨hi.2.1 i x hx, hb i x hx⟩ k).1, hi.2.2⟩, hv, hb⟩
theorem OwnSH.rd {w : World} {B hi : Nat} {a : Option Addr} {n c : Nat} {xss : List (List Int)} (h : OwnSH w B hi (.slice a n c) xss) : RdS w a xss := h.own.rd
def OwnCH (w : World) (B hi : Nat) (v u : Value) (xs : List Int) (xss : List (List Int)) : Prop := ∃ M, B ≤ M ∧ M ≤ hi ∧ OwnH w B M v xs ∧ OwnSH w M hi u xss
theorem OwnC.toH {w : World} {B : Nat} {v u : Value} {xs : List Int} {xss : List (List Int)} (h : OwnC w B v u xs xss) (hM : B ≤ w.heap.size) : OwnCH w B w.heap.size v u xs xss := by
 obtain ⟨M, h1, h2, h3, h4⟩ := h
 by_cases hm : M ≤ w.heap.size
 · exact ⟨M, h1, hm, ⟨h2, h3⟩, h4.toH⟩
 · refine ⟨w.heap.size, hM, Nat.le_refl _, h2.toH, ?_⟩
   obtain ⟨hl, vs, hr, hi⟩ := h4
   have no : ∀ x k, In x M w.heap.size → Value.ownBlock x = some k → False := fun x k h e => by have := h k e; omega
   obtain ⟨r1, r2⟩ := hr
   refine ⟨hl, vs, ⟨r1, ?_⟩, hi.mono (by omega), fun k e => (no _ k (World.ownsRow.lt ⟨r1, r2⟩) e).elim, fun i x hx k e => (no _ k (hi.2.1 i x hx).lt e).elim⟩
   rcases r2 with r2 | ⟨g, cap, cur, e, hb, hg, r⟩
   · exact .inl r2
   · have := (Array.getElem?_eq_some_iff.1 hg).1
     omega
theorem OwnCH.kp {w w' : World} {B hi : Nat} {v u : Value} {xs : List Int} {xss : List (List Int)} (h : OwnCH w B hi v u xs xss) (k : Kp w w' B hi) : OwnCH w' B hi v u xs xss := by
 obtain ⟨M, h1, h2, h3, h4⟩ := h
 exact ⟨M, h1, h2, h3.kp (k.sub (Nat.le_refl _) h2), h4.kp (k.sub h1 (Nat.le_refl _))⟩
theorem OwnCH.rd {w : World} {B hi : Nat} {a b : Option Addr} {n c m d : Nat} {xs : List Int} {xss : List (List Int)} (h : OwnCH w B hi (.slice a n c) (.slice b m d) xs xss) : Rd w a xs := by
 obtain ⟨M, h1, h2, h3, h4⟩ := h
 exact h3.rd
theorem OwnCH.rds {w : World} {B hi : Nat} {a b : Option Addr} {n c m d : Nat} {xs : List Int} {xss : List (List Int)} (h : OwnCH w B hi (.slice a n c) (.slice b m d) xs xss) : RdS w b xss := by
 obtain ⟨M, h1, h2, h3, h4⟩ := h
 exact h4.rd
theorem sum_le_of {ls : List Nat} (h : ∀ n ∈ ls, n ≤ 1073741824) : ls.sum ≤ ls.length * 1073741824 := by
 induction ls with
 | nil => simp
 | cons n ls ih =>
  have h1 := ih (fun m hm => h m (List.mem_cons_of_mem _ hm))
  have h2 := h n List.mem_cons_self
  rw [List.sum_cons, List.length_cons, Nat.add_mul]
  omega
theorem OwnSH.sum {w : World} {B hi : Nat} {v : Value} {xss : List (List Int)} (h : OwnSH w B hi v xss) : (xss.map List.length).sum ≤ 1152921504606846976 := by
 obtain ⟨hl, vs, hr, hin, _⟩ := h
 have h1 : ∀ n ∈ xss.map List.length, n ≤ 1073741824 := by
  intro n hn
  obtain ⟨xs, hx, rfl⟩ := List.mem_map.1 hn
  obtain ⟨i, hi, rfl⟩ := List.getElem_of_mem hx
  have hil : i < vs.length := by rw [hin.1]; exact hi
  have := (hin.2.1 i _ (List.getElem?_eq_getElem hil)).1
  rwa [nthL_lt hi] at this
 have h2 := sum_le_of h1
 rw [List.length_map] at h2
 have h3 : xss.length * 1073741824 ≤ 1073741824 * 1073741824 := Nat.mul_le_mul_right _ hl
 omega
theorem OwnCH.len {w : World} {B hi : Nat} {v u : Value} {xs : List Int} {xss : List (List Int)} (h : OwnCH w B hi v u xs xss) : xs.length ≤ 1073741824 := by
 obtain ⟨M, h1, h2, h3, h4⟩ := h
 exact h3.1.1
theorem OwnCH.sum {w : World} {B hi : Nat} {v u : Value} {xs : List Int} {xss : List (List Int)} (h : OwnCH w B hi v u xs xss) : (xss.map List.length).sum ≤ 1152921504606846976 := by
 obtain ⟨M, h1, h2, h3, h4⟩ := h
 exact h4.sum
theorem OwnSH.row {w : World} {B hi : Nat} {v : Value} {yss : List (List Int)} (h : OwnSH w B hi v yss) {i : Nat} (hi' : i < yss.length) :
    ∃ a c, OwnH w B hi (.slice a (nthL yss i).length c) (nthL yss i) ∧
     (∀ b off m d, v = .slice (some ⟨b, off, none⟩) m d → w.cell? ⟨b, off + i, none⟩ = some (.slice a (nthL yss i).length c)) ∧
     ∀ w' ys, OwnH w' B hi (.slice a (nthL yss i).length c) ys → ys.length = (nthL yss i).length → w.grownBy w' (Value.ownBlock (.slice a (nthL yss i).length c)) → OwnSH w' B hi v (yss.set i ys) := by
 obtain ⟨hl, vs, hr, hin, hv, hb⟩ := h
 have hil : i < vs.length := by rw [hin.1]; exact hi'
 have hgi := List.getElem?_eq_getElem hil
 have ho := hin.2.1 i _ hgi
 obtain ⟨a, c, e, _, _⟩ := ho.form
 rw [e] at ho
 have hIn := hb i _ hgi
 rw [e] at hIn hgi
 have hne : ∀ k, Value.ownBlock (.slice a (nthL yss i).length c) = some k → v.ownBlock ≠ some k := Own.notSliceBlock hr ho
 refine ⟨a, c, ⟨ho, hIn⟩, ?_, ?_⟩
 · intro b off m d hvv
   have hr2 := hr
   rcases hr.2 with ⟨rfl, _⟩ | ⟨g, cap, cur, rfl, _⟩
   · injection hvv with h0 _ _; cases h0
   · injection hvv with h0 _ _
     injection h0 with h0
     injection h0 with h1 h2
     subst h1; subst h2
     have := hr2.cellAt i (by omega)
     rw [Nat.zero_add, this, hgi]
 intro w' ys ho' hyl hg
 refine ⟨by simpa using hl, vs, ?_, ⟨by simpa using hin.1, fun j x hx => ?_, hin.2.2⟩, hv, hb⟩
 · rw [List.length_set]
   refine hr.kept hg ?_
   rcases hx : v.ownBlock with _ | k
   · exact .inl rfl
   · exact .inr fun e2 => hne k e2.symm hx
 · by_cases hj : j = i
   · subst hj
     rw [hgi] at hx
     injection hx with hx
     subst hx
     have : nthL (yss.set j ys) j = ys := by simp [nthL, hi']
     rw [this]
     exact ho'.1
   · have : nthL (yss.set i ys) j = nthL yss j := by simp [nthL, List.getD_eq_getElem?_getD, List.getElem?_set_ne (Ne.symm hj)]
     rw [this]
     refine (hin.2.1 j x hx).grow hg ?_
     rcases hxb : x.ownBlock with _ | k
     · exact .inl rfl
     · exact .inr fun e2 => hin.2.2 i j _ _ k (Ne.symm hj) hgi hx e2.symm hxb
end Go.Proofs.YtkiljcbejmiioaaGreat
namespace Go.Proofs.YtkiljcbejmiioaaGreat
open Go.RowKit
theorem Kp.alloc {a b : World} {lo hi : Nat} (h : Kp a b lo hi) (s : hi ≤ b.heap.size) (o : Obj) : Kp a (b.alloc o) lo hi := h.trans (Kp.below ((Below.refl _ _).alloc (Nat.le_refl _) o) s)
theorem Kp.drew {a b : World} {lo hi : Nat} (h : Kp a b lo hi) : Kp a b.drew lo hi := h
theorem Kp.grown {a b c : World} {lo hi : Nat} {row : Option Nat} (h : Kp a b lo hi) (hg : b.grownBy c row) (hne : ∀ k, row = some k → k < lo ∨ hi ≤ k) (s : hi ≤ b.heap.size) : Kp a c lo hi :=
 h.trans ⟨hg.size, fun g h1 h2 => hg.block g (by omega) (fun e => by have := hne g e.symm; omega)⟩
theorem Kp.setCell {a b : World} {lo hi : Nat} (h : Kp a b lo hi) {p : Addr} (hp : p.block < lo ∨ hi ≤ p.block) (v : Value) : Kp a (b.setCell p v) lo hi :=
 ⟨by have := h.1; simpa using this, fun g h1 h2 => (Below.heap_setCell b p v g (by omega)).trans (h.2 g h1 h2)⟩
section
variable {w : World} {B hi : Nat} {v r : Value} {xss : List (List Int)} {xs : List Int}
theorem run_append_row (hown : OwnSH w B hi v xss) (g1 : Nat) (hc : w.cell? ⟨g1, 0, none⟩ = some r) (hr : Own w hi r xs) (hB : B ≤ hi) (hhi : hi ≤ w.heap.size) (hl : xss.length + 1 ≤ 1073741824) (ty : TypeId) :
    ∃ v' w', (Builtin.append_ #[24, 24] ty #[v, .slice (some ⟨g1, 0, none⟩) 1 1]).run Tryz.prog w = .ok v' w' ∧ OwnS w' B v' (xss ++ [xs]) ∧ w.grownBy w' v.ownBlock ∧ (v'.ownBlock = v.ownBlock ∨ v'.ownBlock = some w.heap.size) := by
 obtain ⟨i0, hi0, hz0, hz1, hz2⟩ := info_parts Tryz.info_row
 obtain ⟨hxl, vs, hrow, hin, hv, hb⟩ := hown
 obtain ⟨ar, cr, er, _, _⟩ := hr.form
 obtain ⟨v', w', h1, h2, h3, _, h5⟩ := run_append_own_at (P := Tryz.prog) w B 24 ty 28 i0 (.slice none 0 0) 1 24 Tryz.underlying24 hi0 hz0 hz1 hz2 rfl (by omega) v xss.length vs hrow ⟨g1, 0, none⟩ 1 1 [r] rfl
  (fun j u hu => by
   have hj := (List.getElem?_eq_some_iff.1 hu).1
   simp at hj
   subst hj
   injection hu with hu
   subst hu
   rw [Addr.add_lit]; exact hc)
  (by intro u hu; rw [List.mem_singleton.1 hu, er]; rfl) (by unfold maxLen; omega) (by omega) (by omega)
 refine ⟨v', w', h1, ⟨by simpa using hl, vs ++ [r], by simpa using h2, by simp [hin.1], fun i x hx => ?_, fun i j x y k hij hx hy hk => ?_⟩, h3, h5⟩
 · have grow : ∀ (x : Value) (B' : Nat) (zs : List Int), Own w B' x zs → Own w' B' x zs := fun x B' zs ho => ho.grow h3 (by
     rcases hxb : x.ownBlock with _ | k
     · exact .inl rfl
     · exact .inr fun e => Own.notSliceBlock hrow ho k hxb e.symm)
   rcases Nat.lt_or_ge i vs.length with hi' | hi'
   · rw [List.getElem?_append_left hi'] at hx
     have e : nthL (xss ++ [xs]) i = nthL xss i := by rw [nthL, nthL, List.getD_eq_getElem?_getD, List.getElem?_append_left (by have := hin.1; omega), ← List.getD_eq_getElem?_getD]
     rw [e]
     exact grow _ _ _ (hin.2.1 i x hx)
   · have h2 := (List.getElem?_eq_some_iff.1 hx).1
     simp at h2
     obtain rfl : i = vs.length := by omega
     simp at hx
     subst hx
     have e : nthL (xss ++ [xs]) vs.length = xs := by simp [nthL, hin.1]
     rw [e]
     exact (grow _ _ _ hr).mono hB
 · have old : ∀ (i : Nat) (y : Value) (k : Nat), i < vs.length → (vs ++ [r])[i]? = some y → y.ownBlock = some k → k < hi := fun i y k hi' hy hk => by
     rw [List.getElem?_append_left hi'] at hy
     exact (hb i y hy k hk).2
   have new : ∀ (i : Nat) (y : Value) (k : Nat), ¬ i < vs.length → (vs ++ [r])[i]? = some y → i = vs.length ∧ (y.ownBlock = some k → hi ≤ k) := fun i y k hi' hy => by
    have hi2 := (List.getElem?_eq_some_iff.1 hy).1
    simp at hi2
    obtain rfl : i = vs.length := by omega
    simp at hy
    subst hy
    exact ⟨rfl, fun hk => (hr.lt k hk).1⟩
   intro hyk
   by_cases h1 : i < vs.length <;> by_cases h2 : j < vs.length
   · rw [List.getElem?_append_left h1] at hx
     rw [List.getElem?_append_left h2] at hy
     exact hin.2.2 i j x y k hij hx hy hk hyk
   · have a1 := old i x k h1 hx hk
     have a2 := (new j y k h2 hy).2 hyk
     omega
   · have a1 := old j y k h2 hy hyk
     have a2 := (new i x k h1 hx).2 hk
     omega
   · have a1 := (new i x k h1 hx).1
     have a2 := (new j y k h2 hy).1
     omega
theorem wp_append_row {o : Oper} {a : Act} {K : Act → World → Prop} {Q : Exit → Act → World → Prop} (s x : Operand)
    (ho : o.op = .call { callee := .builtin .append, args := #[s, x], argTypes := #[24, 24] })
    (hs : a.eval s = v) (hown : OwnSH w B hi v xss) (g1 : Nat) (hx : a.eval x = .slice (some ⟨g1, 0, none⟩) 1 1) (hc : w.cell? ⟨g1, 0, none⟩ = some r) (hr : Own w hi r xs) (hB : B ≤ hi) (hhi : hi ≤ w.heap.size) (hl : xss.length + 1 ≤ 1073741824)
    (h : ∀ v' w', OwnS w' B v' (xss ++ [xs]) → w.grownBy w' v.ownBlock → (v'.ownBlock = v.ownBlock ∨ v'.ownBlock = some w.heap.size) → K (a.put o.dst v') w') : Oper.wp Tryz.prog o a w K Q := by
 obtain ⟨v', w', hrun, h2, h3, h4⟩ := run_append_row hown g1 hc hr hB hhi hl o.type
 unfold Oper.wp execOp
 simp only [ho, resolve, invoke, builtin, Sem.run_bind, Sem.run_pure, Result.andThen_ok, List.map_toArray, List.map_cons, List.map_nil, hs, hx, hrun]
 exact h v' w' h2 h3 h4
theorem wpList_append_row {ops : Array Oper} {rest : List Oper} {o : Oper} {a : Act} {Q : Exit → Act → World → Prop} (hgd : o.guard = none) (s x : Operand)
    (ho : o.op = .call { callee := .builtin .append, args := #[s, x], argTypes := #[24, 24] })
    (hs : a.eval s = v) (hown : OwnSH w B hi v xss) (g1 : Nat) (hx : a.eval x = .slice (some ⟨g1, 0, none⟩) 1 1) (hc : w.cell? ⟨g1, 0, none⟩ = some r) (hr : Own w hi r xs) (hB : B ≤ hi) (hhi : hi ≤ w.heap.size) (hl : xss.length + 1 ≤ 1073741824)
    (h : ∀ v' w', OwnS w' B v' (xss ++ [xs]) → w.grownBy w' v.ownBlock → (v'.ownBlock = v.ownBlock ∨ v'.ownBlock = some w.heap.size) → wpList Tryz.prog ops Q rest (a.put o.dst v') w') :
    wpList Tryz.prog ops Q (o :: rest) a w :=
 wpList_plain hgd fun _ hK => wp_append_row s x ho hs hown g1 hx hc hr hB hhi hl fun v' w' h2 h3 h4 => hK _ _ (h v' w' h2 h3 h4)
theorem step_append_row {ops : Array Oper} {o : Oper} {a : Act} {K : Act → World → Prop} {Q : Exit → Act → World → Prop} {E : Prop} (hgd : o.guard = none) (s x : Operand)
    (ho : o.op = .call { callee := .builtin .append, args := #[s, x], argTypes := #[24, 24] })
    (hs : a.eval s = v) (hown : OwnSH w B hi v xss) (g1 : Nat) (hx : a.eval x = .slice (some ⟨g1, 0, none⟩) 1 1) (hc : w.cell? ⟨g1, 0, none⟩ = some r) (hr : Own w hi r xs) (hB : B ≤ hi) (hhi : hi ≤ w.heap.size) (hl : xss.length + 1 ≤ 1073741824)
    (h : ∀ v' w', OwnS w' B v' (xss ++ [xs]) → w.grownBy w' v.ownBlock → (v'.ownBlock = v.ownBlock ∨ v'.ownBlock = some w.heap.size) → K (a.put o.dst v') w') :
    if Region.wanted o (yielded ops a.tmps) = true then Oper.wp Tryz.prog o a w K Q else E := by
 have hw : Region.wanted o (yielded ops a.tmps) = true := by simp [Region.wanted, hgd]
 rw [if_pos hw]
 exact wp_append_row s x ho hs hown g1 hx hc hr hB hhi hl h
end
end Go.Proofs.YtkiljcbejmiioaaGreat
namespace Go.Proofs.YtkiljcbejmiioaaGreat
open Go.RowKit
section
variable {w : World} {B hi g n c : Nat} {v : Value} {yss : List (List Int)}
theorem OwnS.row (h : OwnS w B v yss) {i : Nat} (hi : i < yss.length) :
    ∃ a c, Own w B (.slice a (nthL yss i).length c) (nthL yss i) ∧
     (∀ b off m d, v = .slice (some ⟨b, off, none⟩) m d → w.cell? ⟨b, off + i, none⟩ = some (.slice a (nthL yss i).length c)) ∧
     ∀ w' ys, Own w' B (.slice a (nthL yss i).length c) ys → ys.length = (nthL yss i).length → w.grownBy w' (Value.ownBlock (.slice a (nthL yss i).length c)) → OwnS w' B v (yss.set i ys) := by
 obtain ⟨a, c, h1, h2, h3⟩ := h.toH.row hi
 exact ⟨a, c, h1.1, h2, fun w' ys ho hl hg => (h3 w' ys ⟨ho, h1.2⟩ hl hg).own⟩
theorem OwnS.at_ (h : OwnS w B v yss) (h0 : 0 < yss.length) : ∃ g c, v = .slice (some ⟨g, 0, none⟩) yss.length c ∧ B ≤ g ∧ g < w.heap.size ∧ yss.length ≤ c ∧ c ≤ 9223372036854775807 := by
 obtain ⟨hl, vs, hr, hin⟩ := h
 rcases hr.2 with ⟨_, h1⟩ | ⟨g, cap, cur, rfl, hb, hg, hn, hm, hs, ht⟩
 · omega
 · unfold maxLen at hm
   exact ⟨g, cap, rfl, hb, (Array.getElem?_eq_some_iff.1 hg).1, hn, by omega⟩
theorem OwnS.frozen (h : OwnS w B (.slice (some ⟨g, 0, none⟩) n c) yss) (j : Nat) : w.frozen? ⟨g, j, none⟩ = false := by
 have e := h.len
 obtain ⟨hl, vs, hr, hin⟩ := h
 subst e
 exact hr.frozenAt j
theorem row_grow {w' : World} {m : Nat} {vs : List Value} {x : Value} {xs : List Int} (hr : w.ownsRow B 28 1 v m vs) (hg : w.grownBy w' v.ownBlock) {B2 : Nat} (ho : Own w B2 x xs) : Own w' B2 x xs :=
 ho.grow hg (by
  rcases hxb : x.ownBlock with _ | k
  · exact .inl rfl
  · exact .inr fun e => Own.notSliceBlock hr ho k hxb e.symm)
theorem nthL_set_same {xss : List (List Int)} {i : Nat} (h : i < xss.length) (v : List Int) : nthL (xss.set i v) i = v := by simp [nthL, h]
theorem nthL_set_ne {xss : List (List Int)} {i j : Nat} (h : i ≠ j) (v : List Int) : nthL (xss.set i v) j = nthL xss j := by
 simp [nthL, List.getD_eq_getElem?_getD, List.getElem?_set_ne h]
theorem OwnSH.put (h : OwnSH w B hi (.slice (some ⟨g, 0, none⟩) n c) yss) {r : Value} {ys : List Int} (hr : Own w hi r ys) (hB : B ≤ hi) {j : Nat} (hj : j < yss.length) :
    OwnS (w.setCell ⟨g, j, none⟩ r) B (.slice (some ⟨g, 0, none⟩) n c) (yss.set j ys) ∧ w.grownBy (w.setCell ⟨g, j, none⟩ r) (some g) := by
 have e := h.own.len
 subst e
 obtain ⟨hl, vs, ho, hin, hv, hb⟩ := h
 obtain ⟨h1, h2⟩ := ho.stored j r
 have row : ∀ (x : Value) (B2 : Nat) (xs : List Int), Own w B2 x xs → Own (w.setCell ⟨g, j, none⟩ r) B2 x xs := fun x B2 xs hx => row_grow ho h2 hx
 refine ⟨⟨by simpa using hl, vs.set j r, by rw [List.length_set]; exact h1, by simp [hin.1], fun i x hx => ?_, fun i k x y b hik hx hy hxb hyb => ?_⟩, h2⟩
 · by_cases e : i = j
   · subst e
     rw [List.getElem?_set_self (by rw [hin.1]; exact hj)] at hx
     injection hx with hx
     subst hx
     rw [nthL_set_same hj]
     exact (row _ _ _ hr).mono hB
   · rw [List.getElem?_set_ne (Ne.symm e)] at hx
     rw [nthL_set_ne (Ne.symm e)]
     exact row _ _ _ (hin.2.1 i x hx)
 · have cas : ∀ (q : Nat) (z : Value), (vs.set j r)[q]? = some z → (q = j ∧ z = r) ∨ (q ≠ j ∧ vs[q]? = some z) := fun q z hz => by
     by_cases e : q = j
     · subst e
       rw [List.getElem?_set_self (by rw [hin.1]; exact hj)] at hz
       injection hz with hz
       exact .inl ⟨rfl, hz.symm⟩
     · rw [List.getElem?_set_ne (Ne.symm e)] at hz
       exact .inr ⟨e, hz⟩
   rcases cas i x hx with ⟨e1, e2⟩ | ⟨e1, e2⟩ <;> rcases cas k y hy with ⟨f1, f2⟩ | ⟨f1, f2⟩
   · omega
   · subst e2
     have a1 := (hr.lt b hxb).1
     have a2 := (hb k y f2 b hyb).2
     omega
   · subst f2
     have a1 := (hr.lt b hyb).1
     have a2 := (hb i x e2 b hxb).2
     omega
   · exact hin.2.2 i k x y b hik e2 f2 hxb hyb
theorem OwnS.swap (h : OwnS w B (.slice (some ⟨g, 0, none⟩) n c) yss) {i j : Nat} (hi : i < yss.length) (hj : j < yss.length) (hij : i ≠ j) {x y : Value} (hx : w.cell? ⟨g, i, none⟩ = some x) (hy : w.cell? ⟨g, j, none⟩ = some y) :
    OwnS ((w.setCell ⟨g, i, none⟩ y).setCell ⟨g, j, none⟩ x) B (.slice (some ⟨g, 0, none⟩) n c) ((yss.set i (nthL yss j)).set j (nthL yss i)) ∧ w.grownBy ((w.setCell ⟨g, i, none⟩ y).setCell ⟨g, j, none⟩ x) (some g) := by
 have e := h.len
 subst e
 obtain ⟨hl, vs, ho, hin⟩ := h
 have vx : vs[i]? = some x := by rw [← ho.cellAt i (by omega)]; exact hx
 have vy : vs[j]? = some y := by rw [← ho.cellAt j (by omega)]; exact hy
 obtain ⟨h1, h2⟩ := ho.stored i y
 obtain ⟨h3, h4⟩ := h1.stored j x
 have row : ∀ (z : Value) (B2 : Nat) (xs : List Int), Own w B2 z xs → Own ((w.setCell ⟨g, i, none⟩ y).setCell ⟨g, j, none⟩ x) B2 z xs := fun z B2 xs hz => row_grow h1 h4 (row_grow ho h2 hz)
 have hil : i < vs.length := by rw [hin.1]; exact hi
 have hjl : j < vs.length := by rw [hin.1]; exact hj
 -- which row stands where
 have cas : ∀ (q : Nat) (z : Value), ((vs.set i y).set j x)[q]? = some z → ∃ q', vs[q']? = some z ∧ ((q = j ∧ q' = i) ∨ (q = i ∧ q ≠ j ∧ q' = j) ∨ (q ≠ i ∧ q ≠ j ∧ q' = q)) := fun q z hz => by
  by_cases e : q = j
  · subst e
    rw [List.getElem?_set_self (by rw [List.length_set]; exact hjl)] at hz
    injection hz with hz
    subst hz
    exact ⟨i, vx, .inl ⟨rfl, rfl⟩⟩
  · rw [List.getElem?_set_ne (Ne.symm e)] at hz
    by_cases e2 : q = i
    · subst e2
      rw [List.getElem?_set_self hil] at hz
      injection hz with hz
      subst hz
      exact ⟨j, vy, .inr (.inl ⟨rfl, e, rfl⟩)⟩
    · rw [List.getElem?_set_ne (Ne.symm e2)] at hz
      exact ⟨q, hz, .inr (.inr ⟨e2, e, rfl⟩)⟩
 refine ⟨⟨by simpa using hl, (vs.set i y).set j x, by simpa using h3, by simp [hin.1], fun q z hz => ?_, fun q k z u b hqk hz hu hzb hub => ?_⟩, grown_trans_row h2 h4⟩
 · obtain ⟨q', hq, hc⟩ := cas q z hz
   have o := row _ _ _ (hin.2.1 q' z hq)
   rcases hc with ⟨rfl, rfl⟩ | ⟨rfl, hne, rfl⟩ | ⟨h1, h2, rfl⟩
   · rw [nthL_set_same (by rw [List.length_set]; exact hj)]; exact o
   · rw [nthL_set_ne (Ne.symm hne), nthL_set_same hi]; exact o
   · rw [nthL_set_ne (Ne.symm h2), nthL_set_ne (Ne.symm h1)]; exact o
 · obtain ⟨q', hq, hc⟩ := cas q z hz
   obtain ⟨k', hk, hd⟩ := cas k u hu
   exact hin.2.2 q' k' z u b (by omega) hq hk hzb hub
theorem OwnSH.put2 (h : OwnSH w B hi (.slice (some ⟨g, 0, none⟩) n c) yss) {r y : Value} {ys : List Int} (hr : Own w hi r ys) (hB : B ≤ hi) {i t : Nat} (hi' : i < yss.length) (ht : t < yss.length) (hy : w.cell? ⟨g, t, none⟩ = some y) :
    OwnS ((w.setCell ⟨g, i, none⟩ y).setCell ⟨g, t, none⟩ r) B (.slice (some ⟨g, 0, none⟩) n c) ((yss.set i (nthL yss t)).set t ys) ∧ w.grownBy ((w.setCell ⟨g, i, none⟩ y).setCell ⟨g, t, none⟩ r) (some g) := by
 have e := h.own.len
 subst e
 obtain ⟨hl, vs, ho, hin, hv, hb⟩ := h
 have vy : vs[t]? = some y := by rw [← ho.cellAt t (by omega)]; exact hy
 obtain ⟨h1, h2⟩ := ho.stored i y
 obtain ⟨h3, h4⟩ := h1.stored t r
 have row : ∀ (z : Value) (B2 : Nat) (xs : List Int), Own w B2 z xs → Own ((w.setCell ⟨g, i, none⟩ y).setCell ⟨g, t, none⟩ r) B2 z xs := fun z B2 xs hz => row_grow h1 h4 (row_grow ho h2 hz)
 have hil : i < vs.length := by rw [hin.1]; exact hi'
 have htl : t < vs.length := by rw [hin.1]; exact ht
 have cas : ∀ (q : Nat) (z : Value), ((vs.set i y).set t r)[q]? = some z → (q = t ∧ z = r) ∨ ∃ q', vs[q']? = some z ∧ q ≠ t ∧ ((q = i ∧ q' = t) ∨ (q ≠ i ∧ q' = q)) := fun q z hz => by
  by_cases e : q = t
  · subst e
    rw [List.getElem?_set_self (by rw [List.length_set]; exact htl)] at hz
    injection hz with hz
    exact .inl ⟨rfl, hz.symm⟩
  · rw [List.getElem?_set_ne (Ne.symm e)] at hz
    by_cases e2 : q = i
    · subst e2
      rw [List.getElem?_set_self hil] at hz
      injection hz with hz
      subst hz
      exact .inr ⟨t, vy, e, .inl ⟨rfl, rfl⟩⟩
    · rw [List.getElem?_set_ne (Ne.symm e2)] at hz
      exact .inr ⟨q, hz, e, .inr ⟨e2, rfl⟩⟩
 refine ⟨⟨by simpa using hl, (vs.set i y).set t r, by simpa using h3, by simp [hin.1], fun q z hz => ?_, fun q k z u b hqk hz hu hzb hub => ?_⟩, grown_trans_row h2 h4⟩
 · rcases cas q z hz with ⟨rfl, rfl⟩ | ⟨q', hq, hne, hc⟩
   · rw [nthL_set_same (by rw [List.length_set]; exact ht)]
     exact (row _ _ _ hr).mono hB
   · have o := row _ _ _ (hin.2.1 q' z hq)
     rcases hc with ⟨rfl, rfl⟩ | ⟨h1, rfl⟩
     · rw [nthL_set_ne (Ne.symm hne), nthL_set_same hi']; exact o
     · rw [nthL_set_ne (Ne.symm hne), nthL_set_ne (Ne.symm h1)]; exact o
 · rcases cas q z hz with ⟨rfl, rfl⟩ | ⟨q', hq, hne, hc⟩ <;> rcases cas k u hu with ⟨rfl, rfl⟩ | ⟨k', hk, hke, hd⟩
   · omega
   · have a1 := (hr.lt b hzb).1
     have a2 := (hb k' u hk b hub).2
     omega
   · have a1 := (hr.lt b hub).1
     have a2 := (hb q' z hq b hzb).2
     omega
   · exact hin.2.2 q' k' z u b (by omega) hq hk hzb hub
theorem OwnS.inn (h : OwnS w B v yss) : In v B w.heap.size := by
 obtain ⟨_, vs, hr, _⟩ := h
 exact hr.lt
theorem Below.stepS {C : Nat} {a w' : World} (h : Below C a w) (hg : w.grownBy w' v.ownBlock) (ho : OwnS w B v yss) (hBo : C ≤ B) (hB : C ≤ w.heap.size) : Below C a w' :=
 h.grown hg hB (fun k hk => by have := (ho.inn k hk).1; omega)
theorem OwnS.take (h : OwnS w B (.slice (some ⟨g, 0, none⟩) n c) yss) {m : Nat} (hm : m ≤ n) : OwnS w B (.slice (some ⟨g, 0, none⟩) m c) (yss.take m) := by
 have e := h.len
 subst e
 obtain ⟨hl, vs, ⟨h1, h3⟩, hin⟩ := h
 have hml : (yss.take m).length = m := by rw [List.length_take]; omega
 refine ⟨by rw [hml]; omega, vs.take m, ?_, by rw [List.length_take, hml, hin.1]; omega, fun i x hx => ?_, fun i j x y b hij hx hy hxb => ?_⟩
 · rw [hml]
   refine ⟨by rw [List.length_take, hin.1]; omega, .inr ?_⟩
   rcases h3 with ⟨e, _⟩ | ⟨g', cap, cur, e, hb, hg, hn, hcm, hs, ht⟩
   · cases e
   · injection e with e1 e2 e3
     injection e1 with e1
     injection e1 with e1
     subst e1
     subst e3
     refine ⟨g, c, cur, rfl, hb, hg, by omega, hcm, hs, ?_⟩
     rw [← ht, List.take_take]
     congr 1
     omega
 · have hi : i < m := by
     have := (List.getElem?_eq_some_iff.1 hx).1
     rw [List.length_take] at this
     omega
   rw [List.getElem?_take_of_lt hi] at hx
   rw [nthL_take hi]
   exact hin.2.1 i x hx
 · have lt : ∀ (q : Nat) (z : Value), (vs.take m)[q]? = some z → vs[q]? = some z := fun q z hz => by
     have hq : q < m := by
      have := (List.getElem?_eq_some_iff.1 hz).1
      rw [List.length_take] at this
      omega
     rwa [List.getElem?_take_of_lt hq] at hz
   exact hin.2.2 i j x y b hij (lt i x hx) (lt j y hy) hxb
end
end Go.Proofs.YtkiljcbejmiioaaGreat
namespace Go.Proofs.YtkiljcbejmiioaaGreat
open Go.RowKit
section
variable {w : World} {B : Nat} {v : Value} {xs ys : List Int}
theorem run_append_ints (hown : Own w B v xs) (ad : Option Addr) (m c : Nat) (hm : m = ys.length) (hr : Rd w ad ys) (hl : xs.length + ys.length ≤ 1073741824) (hB : B ≤ w.heap.size) (ty : TypeId) :
    ∃ v' w', (Builtin.append_ #[28, 28] ty #[v, .slice ad m c]).run Tryz.prog w = .ok v' w' ∧ Own w' B v' (xs ++ ys) ∧ w.grownBy w' v.ownBlock ∧ (v'.ownBlock = v.ownBlock ∨ v'.ownBlock = some w.heap.size) := by
 obtain ⟨i0, hi0, hz0, hz1, hz2⟩ := info_parts Tryz.info_i64
 rcases Nat.eq_zero_or_pos ys.length with h0 | h0
 · have hy : ys = [] := List.eq_nil_of_length_eq_zero h0
   subst hy
   simp only [List.length_nil] at hm
   subst hm
   refine ⟨v, w, ?_, by simpa using hown, World.grownBy.refl w _, .inl rfl⟩
   rcases hown.2.2 with ⟨rfl, h0⟩ | ⟨g, cap, cur, rfl, _, _, hnc, _⟩
   · cases ad <;> simp [Builtin.append_, run_underlying Tryz.underlying28, sizeOf, typeInfo, hi0, Builtin.lenOf, Builtin.firstCells, loadCells, loadCellsFrom]
   · cases ad <;> simp [Builtin.append_, run_underlying Tryz.underlying28, sizeOf, typeInfo, hi0, Builtin.lenOf, Builtin.firstCells, hnc, storeCells, loadCells, loadCellsFrom]
 · obtain ⟨b, off, rfl, _, hc⟩ := hr.at_ h0
   obtain ⟨v', w', h1, h2, h3, _, h5⟩ := run_append_own_at (P := Tryz.prog) w B 28 ty 2 i0 (.int .i64 0) 1 8 Tryz.underlying28 hi0 hz0 hz1 hz2 rfl (by omega) v xs.length (xs.map (Value.int .i64)) hown.2 ⟨b, off, none⟩ m c (ys.map (Value.int .i64)) (by simp [hm])
    (fun j u hu => by
     have hj : j < ys.length := by
      have := (List.getElem?_eq_some_iff.1 hu).1
      simpa using this
     rw [Addr.add_lit, hc j hj, ← hu, List.getElem?_map, List.getElem?_eq_getElem hj, nth_lt hj]; rfl)
    (ints_oneCell _ _) (by unfold maxLen; omega) (by omega) hB
   exact ⟨v', w', h1, ⟨by simpa using hl, by rw [List.map_append, List.length_append, ← hm]; exact h2⟩, h3, h5⟩
theorem wp_append_ints {o : Oper} {a : Act} {K : Act → World → Prop} {Q : Exit → Act → World → Prop} (s x : Operand)
    (ho : o.op = .call { callee := .builtin .append, args := #[s, x], argTypes := #[28, 28] })
    (hs : a.eval s = v) (hown : Own w B v xs) (ad : Option Addr) (m c : Nat) (hx : a.eval x = .slice ad m c) (hm : m = ys.length) (hr : Rd w ad ys) (hl : xs.length + ys.length ≤ 1073741824) (hB : B ≤ w.heap.size)
    (h : ∀ v' w', Own w' B v' (xs ++ ys) → w.grownBy w' v.ownBlock → (v'.ownBlock = v.ownBlock ∨ v'.ownBlock = some w.heap.size) → K (a.put o.dst v') w') : Oper.wp Tryz.prog o a w K Q := by
 obtain ⟨v', w', hrun, h2, h3, h4⟩ := run_append_ints hown ad m c hm hr hl hB o.type
 unfold Oper.wp execOp
 simp only [ho, resolve, invoke, builtin, Sem.run_bind, Sem.run_pure, Result.andThen_ok, List.map_toArray, List.map_cons, List.map_nil, hs, hx, hrun]
 exact h v' w' h2 h3 h4
theorem step_append_ints {ops : Array Oper} {o : Oper} {a : Act} {K : Act → World → Prop} {Q : Exit → Act → World → Prop} {E : Prop} (hgd : o.guard = none) (s x : Operand)
    (ho : o.op = .call { callee := .builtin .append, args := #[s, x], argTypes := #[28, 28] })
    (hs : a.eval s = v) (hown : Own w B v xs) (ad : Option Addr) (m c : Nat) (hx : a.eval x = .slice ad m c) (hm : m = ys.length) (hr : Rd w ad ys) (hl : xs.length + ys.length ≤ 1073741824) (hB : B ≤ w.heap.size)
    (h : ∀ v' w', Own w' B v' (xs ++ ys) → w.grownBy w' v.ownBlock → (v'.ownBlock = v.ownBlock ∨ v'.ownBlock = some w.heap.size) → K (a.put o.dst v') w') :
    if Region.wanted o (yielded ops a.tmps) = true then Oper.wp Tryz.prog o a w K Q else E := by
 have hw : Region.wanted o (yielded ops a.tmps) = true := by simp [Region.wanted, hgd]
 rw [if_pos hw]
 exact wp_append_ints s x ho hs hown ad m c hx hm hr hl hB h
end
end Go.Proofs.YtkiljcbejmiioaaGreat
namespace Go.Proofs.YtkiljcbejmiioaaGreat
open Go.RowKit
theorem OwnSH.belw {w w' : World} {B hi : Nat} {v : Value} {xss : List (List Int)} (h : OwnSH w B hi v xss) (hb : Below w.heap.size w w') (hh : hi ≤ w.heap.size) : OwnSH w' B hi v xss := h.kp (Kp.below hb hh)
theorem copyLists_any (a : Option Addr) (c : Nat) (xss : List (List Int)) (w : World) (hx : RdS w a xss) :
    Calls Tryz.prog 41 #[.slice a xss.length c] w fun e w' => ∃ v, e = .returned v ∧ OwnS w' w.heap.size v xss ∧ Below w.heap.size w w' := by
 have hxl := hx.len
 go_enter Tryz.func41, Tryz.ntmps41
 go_wp2
 go_loopw [3, 8] (fun v iv wr => ∃ (k : Nat), iv = .int .i64 k ∧ k ≤ xss.length ∧ Hid (OwnS wr w.heap.size v (xss.take k)) ∧ Below w.heap.size w wr) (fun _ iv _ => xss.length - (intOf iv).toNat)
 case atStart => exact ⟨0, rfl, Nat.zero_le _, OwnS.nil _ _, Below.refl _ _⟩
 case round =>
  obtain ⟨k, rfl, hk, ho, hb⟩ := hrel
  have hsz := hb.size
  by_cases hkl : k < xss.length
  · obtain ⟨b1, o1, rfl, _, hc⟩ := (hx.below hb).at_ (by omega)
    obtain ⟨ai, ci, h1, hr⟩ := hc k hkl
    have htk := take_nthL hkl
    have htl : (xss.take k).length = k := by rw [List.length_take]; omega
    generalize nthL xss k = row at h1 hr htk
    have HTK := Lib.hid htk
    have HTL := Lib.hid htl
    clear hc htk htl
    go_wp2_with fail
    refine (clone_any ai ci row wr hr).mono ?_
    rintro e w1 ⟨v1, rfl, o1, b1⟩
    obtain ⟨a1, c1, rfl, _, _⟩ := o1.form
    have hH := ho.out.toH.belw b1 (Nat.le_refl _)
    have hs1 := b1.size
    have hb1 := hb.trans (b1.mono hsz)
    go_wp2_with (at_builtin; refine wpList_append_row rfl (.tmp 12) (.tmp 15) rfl (v := u3) rfl (hH.belw ((Below.refl _ _).alloc (Nat.le_refl _) _) hs1) _ rfl ((Blk.new w1 28 #[.slice a1 row.length c1] rfl).cell 0) (o1.alloc _) hsz (by simp; omega) (by rw [HTL.out]; omega) ?_; intro v2 w2 o2 g2 _)
    go_roundw
    case rel =>
     refine ⟨k + 1, by go_num, by omega, ?_, Below.stepS (hb1.alloc (by omega) _) g2 (hH.belw ((Below.refl _ _).alloc (Nat.le_refl _) _) hs1).own (Nat.le_refl _) (by simp; omega)⟩
     show OwnS _ _ _ _
     rw [HTK.out]
     exact o2
    case measure => simp only [intOf]; omega
  · have hke : k = xss.length := by omega
    have HE := Lib.hid hke
    clear hke
    go_wp2
    go_ret
    exact ⟨_, rfl, by have o := ho.out; rw [HE.out, List.take_length] at o; exact o, hb⟩
theorem l17Own_any (a : Option Addr) (c : Nat) (xss : List (List Int)) (w : World) (hx : RdS w a xss) :
    Calls Tryz.prog 83 #[.slice a xss.length c] w fun e w' => ∃ v, e = .returned v ∧ OwnS w' w.heap.size v xss ∧ Below w.heap.size w w' := by
 have hxl := hx.len
 go_enter Tryz.func83, Tryz.ntmps83
 go_wp2
 go_loopw [3, 4] (fun v iv wr => ∃ (k : Nat), iv = .int .i64 k ∧ k ≤ xss.length ∧ Hid (OwnS wr w.heap.size v (xss.take k)) ∧ Below w.heap.size w wr) (fun _ iv _ => xss.length - (intOf iv).toNat)
 case atStart => exact ⟨0, rfl, Nat.zero_le _, OwnS.empty w (Nat.le_refl _), (Below.refl _ _).alloc (Nat.le_refl _) _⟩
 case round =>
  obtain ⟨k, rfl, hk, ho, hb⟩ := hrel
  have hsz := hb.size
  by_cases hkl : k < xss.length
  · obtain ⟨b1, o1, rfl, _, hc⟩ := (hx.below hb).at_ (by omega)
    obtain ⟨ai, ci, h1, hr⟩ := hc k hkl
    have htk := take_nthL hkl
    have htl : (xss.take k).length = k := by rw [List.length_take]; omega
    generalize nthL xss k = row at h1 hr htk
    have HTK := Lib.hid htk
    have HTL := Lib.hid htl
    clear hc htk htl
    go_wp2_with fail
    refine (l00Own_any ai ci row wr hr).mono ?_
    rintro e w1 ⟨v1, rfl, o1, b1⟩
    obtain ⟨a1, c1, rfl, _, _⟩ := o1.form
    have hH := ho.out.toH.belw b1 (Nat.le_refl _)
    have hs1 := b1.size
    have hb1 := hb.trans (b1.mono hsz)
    go_wp2_with (at_builtin; refine wpList_append_row rfl (.tmp 12) (.tmp 18) rfl (v := u3) rfl (hH.belw ((Below.refl _ _).alloc (Nat.le_refl _) _) hs1) _ rfl ((Blk.new w1 28 #[.slice a1 row.length c1] rfl).cell 0) (o1.alloc _) hsz (by simp; omega) (by rw [HTL.out]; omega) ?_; intro v2 w2 o2 g2 _)
    go_roundw
    case rel =>
     refine ⟨k + 1, by go_num, by omega, ?_, Below.stepS (hb1.alloc (by omega) _) g2 (hH.belw ((Below.refl _ _).alloc (Nat.le_refl _) _) hs1).own (Nat.le_refl _) (by simp; omega)⟩
     show OwnS _ _ _ _
     rw [HTK.out]
     exact o2
    case measure => simp only [intOf]; omega
  · have hke : k = xss.length := by omega
    have HE := Lib.hid hke
    clear hke
    go_wp2
    go_ret
    exact ⟨_, rfl, by have o := ho.out; rw [HE.out, List.take_length] at o; exact o, hb⟩
end Go.Proofs.YtkiljcbejmiioaaGreat
namespace Go.Proofs.YtkiljcbejmiioaaGreat
open Go.RowKit
def OwnSQ (w : World) (B : Nat) (v : Value) (xss : List (List Int)) (Q : Value → Prop) : Prop :=
 xss.length ≤ 1073741824 ∧ ∃ vs : List Value, w.ownsRow B 28 1 v xss.length vs ∧ Inner w B vs xss ∧ ∀ (i : Nat) (x : Value), vs[i]? = some x → Q x
section
variable {w w' : World} {B hi g n c : Nat} {v : Value} {yss : List (List Int)} {Q Q' : Value → Prop}
theorem OwnSQ.own (h : OwnSQ w B v yss Q) : OwnS w B v yss := by
 obtain ⟨hl, vs, hr, hin, _⟩ := h
 exact ⟨hl, vs, hr, hin⟩
theorem OwnSQ.imp (h : OwnSQ w B v yss Q) (hq : ∀ x, (∀ k, x.ownBlock = some k → k < w.heap.size) → Q x → Q' x) : OwnSQ w B v yss Q' := by
 obtain ⟨hl, vs, hr, hin, hQ⟩ := h
 exact ⟨hl, vs, hr, hin, fun i x hx => hq x (fun k hk => ((hin.2.1 i x hx).lt k hk).2) (hQ i x hx)⟩
theorem OwnS.toQ (h : OwnS w B v yss) (hq : ∀ x, (∀ k, x.ownBlock = some k → B ≤ k ∧ k < w.heap.size) → Q x) : OwnSQ w B v yss Q := by
 obtain ⟨hl, vs, hr, hin⟩ := h
 exact ⟨hl, vs, hr, hin, fun i x hx => hq x (fun k hk => (hin.2.1 i x hx).lt k hk)⟩
theorem OwnSQ.below (h : OwnSQ w B v yss Q) (hb : Below w.heap.size w w') : OwnSQ w' B v yss Q := by
 obtain ⟨hl, vs, hr, hin, hQ⟩ := h
 exact ⟨hl, vs, ownsRow_below hr hb (Nat.le_refl _), hin.below hb (Nat.le_refl _), hQ⟩
theorem OwnSQ.grow (h : OwnSQ w B v yss Q) {u : Value} {B' : Nat} {us : List Int} (hu : Own w B' u us) (hg : w.grownBy w' u.ownBlock) (hq : ∀ x, Q x → ∀ k, x.ownBlock = some k → u.ownBlock ≠ some k) : OwnSQ w' B v yss Q := by
 obtain ⟨hl, vs, hr, hin, hQ⟩ := h
 refine ⟨hl, vs, hr.kept hg ?_, ⟨hin.1, fun i x hx => (hin.2.1 i x hx).grow hg ?_, hin.2.2⟩, hQ⟩
 · rcases hub : u.ownBlock with _ | k
   · rcases hv : v.ownBlock with _ | k
     · exact .inl rfl
     · exact .inr (by simp)
   · refine .inr fun e => ?_
     exact Own.notSliceBlock hr hu k hub e
 · rcases hxb : x.ownBlock with _ | k
   · exact .inl rfl
   · exact .inr fun e => hq x (hQ i x hx) k hxb e.symm
theorem OwnSQ.row (h : OwnSQ w B v yss Q) {i : Nat} (hi : i < yss.length) :
    ∃ a c, Own w B (.slice a (nthL yss i).length c) (nthL yss i) ∧ Q (.slice a (nthL yss i).length c) ∧
     (∀ b off m d, v = .slice (some ⟨b, off, none⟩) m d → w.cell? ⟨b, off + i, none⟩ = some (.slice a (nthL yss i).length c)) ∧
     (∀ w' ys, Own w' B (.slice a (nthL yss i).length c) ys → ys.length = (nthL yss i).length → w.grownBy w' (Value.ownBlock (.slice a (nthL yss i).length c)) → OwnSQ w' B v (yss.set i ys) Q) ∧
     (∀ j a' c', j < yss.length → j ≠ i → (∀ b off m d, v = .slice (some ⟨b, off, none⟩) m d → w.cell? ⟨b, off + j, none⟩ = some (.slice a' (nthL yss j).length c')) → v.ownBlock ≠ none → ∀ k, Value.ownBlock (.slice a' (nthL yss j).length c') = some k → Value.ownBlock (.slice a (nthL yss i).length c) ≠ some k) := by
 obtain ⟨hl, vs, hr, hin, hQ⟩ := h
 have hil : i < vs.length := by rw [hin.1]; exact hi
 have hgi := List.getElem?_eq_getElem hil
 have ho := hin.2.1 i _ hgi
 obtain ⟨a, c, e, _, _⟩ := ho.form
 rw [e] at ho hgi
 have hne : ∀ k, Value.ownBlock (.slice a (nthL yss i).length c) = some k → v.ownBlock ≠ some k := Own.notSliceBlock hr ho
 have cellv : ∀ (q : Nat) (b off m d : Nat), q < vs.length → v = .slice (some ⟨b, off, none⟩) m d → w.cell? ⟨b, off + q, none⟩ = vs[q]? := by
  intro q b off m d hq hvv
  have hr2 := hr
  rcases hr.2 with ⟨rfl, _⟩ | ⟨g, cap, cur, rfl, _⟩
  · injection hvv with h0 _ _; cases h0
  · injection hvv with h0 _ _
    injection h0 with h0
    injection h0 with h1 h2
    subst h1; subst h2
    rw [Nat.zero_add]
    exact hr2.cellAt q (by have := hin.1; omega)
 refine ⟨a, c, ho, hQ i _ hgi, fun b off m d hvv => by rw [cellv i b off m d hil hvv, hgi], ?_, ?_⟩
 · intro w' ys ho' hyl hg
   refine ⟨by simpa using hl, vs, ?_, ⟨by simpa using hin.1, fun j x hx => ?_, hin.2.2⟩, hQ⟩
   · rw [List.length_set]
     refine hr.kept hg ?_
     rcases hx : v.ownBlock with _ | k
     · exact .inl rfl
     · exact .inr fun e2 => hne k e2.symm hx
   · by_cases hj : j = i
     · subst hj
       rw [hgi] at hx
       injection hx with hx
       subst hx
       rw [nthL_set_same hi]
       exact ho'
     · rw [nthL_set_ne (Ne.symm hj)]
       refine (hin.2.1 j x hx).grow hg ?_
       rcases hxb : x.ownBlock with _ | k
       · exact .inl rfl
       · exact .inr fun e2 => hin.2.2 i j _ _ k (Ne.symm hj) hgi hx e2.symm hxb
 · intro j a' c' hj hji hcell hv0 k hk hk2
   have hjl : j < vs.length := by rw [hin.1]; exact hj
   rcases hr.2 with ⟨rfl, h0⟩ | ⟨g, cap, cur, rfl, _⟩
   · exact hv0 rfl
   · have h1 := hcell g 0 _ _ rfl
     rw [cellv j g 0 _ _ hjl rfl] at h1
     exact hin.2.2 i j _ _ k (Ne.symm hji) hgi h1 hk2 hk
theorem OwnSQ.put (h : OwnSQ w B (.slice (some ⟨g, 0, none⟩) n c) yss Q) {r : Value} {ys : List Int} (hr : Own w hi r ys) (hB : B ≤ hi)
    (hlow : ∀ x, Q x → ∀ k, x.ownBlock = some k → k < hi) (hq : Q' r) (hQQ : ∀ x, Q x → Q' x) {j : Nat} (hj : j < yss.length) :
    OwnSQ (w.setCell ⟨g, j, none⟩ r) B (.slice (some ⟨g, 0, none⟩) n c) (yss.set j ys) Q' ∧ w.grownBy (w.setCell ⟨g, j, none⟩ r) (some g) := by
 have e := h.own.len
 subst e
 obtain ⟨hl, vs, ho, hin, hQ⟩ := h
 obtain ⟨h1, h2⟩ := ho.stored j r
 have row : ∀ (x : Value) (B2 : Nat) (xs : List Int), Own w B2 x xs → Own (w.setCell ⟨g, j, none⟩ r) B2 x xs := fun x B2 xs hx => row_grow ho h2 hx
 have cas : ∀ (q : Nat) (z : Value), (vs.set j r)[q]? = some z → (q = j ∧ z = r) ∨ (q ≠ j ∧ vs[q]? = some z) := fun q z hz => by
  by_cases e : q = j
  · subst e
    rw [List.getElem?_set_self (by rw [hin.1]; exact hj)] at hz
    injection hz with hz
    exact .inl ⟨rfl, hz.symm⟩
  · rw [List.getElem?_set_ne (Ne.symm e)] at hz
    exact .inr ⟨e, hz⟩
 refine ⟨⟨by simpa using hl, vs.set j r, by rw [List.length_set]; exact h1, ⟨by simp [hin.1], fun i x hx => ?_, fun i k x y b hik hx hy hxb hyb => ?_⟩, fun i x hx => ?_⟩, h2⟩
 · rcases cas i x hx with ⟨rfl, rfl⟩ | ⟨e1, e2⟩
   · rw [nthL_set_same hj]; exact (row _ _ _ hr).mono hB
   · rw [nthL_set_ne (Ne.symm e1)]; exact row _ _ _ (hin.2.1 i x e2)
 · rcases cas i x hx with ⟨e1, e2⟩ | ⟨e1, e2⟩ <;> rcases cas k y hy with ⟨f1, f2⟩ | ⟨f1, f2⟩
   · omega
   · subst e2
     have a1 := (hr.lt b hxb).1
     have a2 := hlow y (hQ k y f2) b hyb
     omega
   · subst f2
     have a1 := (hr.lt b hyb).1
     have a2 := hlow x (hQ i x e2) b hxb
     omega
   · exact hin.2.2 i k x y b hik e2 f2 hxb hyb
 · rcases cas i x hx with ⟨rfl, rfl⟩ | ⟨e1, e2⟩
   · exact hq
   · exact hQQ x (hQ i x e2)
theorem OwnSQ.put2 (h : OwnSQ w B (.slice (some ⟨g, 0, none⟩) n c) yss Q) {r y : Value} {ys : List Int} (hr : Own w hi r ys) (hB : B ≤ hi)
    (hlow : ∀ x, Q x → ∀ k, x.ownBlock = some k → k < hi) (hq : Q' r) (hQQ : ∀ x, Q x → Q' x) {i t : Nat} (hi' : i < yss.length) (ht : t < yss.length) (hy : w.cell? ⟨g, t, none⟩ = some y) :
    OwnSQ ((w.setCell ⟨g, i, none⟩ y).setCell ⟨g, t, none⟩ r) B (.slice (some ⟨g, 0, none⟩) n c) ((yss.set i (nthL yss t)).set t ys) Q' ∧ w.grownBy ((w.setCell ⟨g, i, none⟩ y).setCell ⟨g, t, none⟩ r) (some g) := by
 have e := h.own.len
 subst e
 obtain ⟨hl, vs, ho, hin, hQ⟩ := h
 have vy : vs[t]? = some y := by rw [← ho.cellAt t (by omega)]; exact hy
 obtain ⟨h1, h2⟩ := ho.stored i y
 obtain ⟨h3, h4⟩ := h1.stored t r
 have row : ∀ (z : Value) (B2 : Nat) (xs : List Int), Own w B2 z xs → Own ((w.setCell ⟨g, i, none⟩ y).setCell ⟨g, t, none⟩ r) B2 z xs := fun z B2 xs hz => row_grow h1 h4 (row_grow ho h2 hz)
 have hil : i < vs.length := by rw [hin.1]; exact hi'
 have htl : t < vs.length := by rw [hin.1]; exact ht
 have cas : ∀ (q : Nat) (z : Value), ((vs.set i y).set t r)[q]? = some z → (q = t ∧ z = r) ∨ ∃ q', vs[q']? = some z ∧ q ≠ t ∧ ((q = i ∧ q' = t) ∨ (q ≠ i ∧ q' = q)) := fun q z hz => by
  by_cases e : q = t
  · subst e
    rw [List.getElem?_set_self (by rw [List.length_set]; exact htl)] at hz
    injection hz with hz
    exact .inl ⟨rfl, hz.symm⟩
  · rw [List.getElem?_set_ne (Ne.symm e)] at hz
    by_cases e2 : q = i
    · subst e2
      rw [List.getElem?_set_self hil] at hz
      injection hz with hz
      subst hz
      exact .inr ⟨t, vy, e, .inl ⟨rfl, rfl⟩⟩
    · rw [List.getElem?_set_ne (Ne.symm e2)] at hz
      exact .inr ⟨q, hz, e, .inr ⟨e2, rfl⟩⟩
 refine ⟨⟨by simpa using hl, (vs.set i y).set t r, by simpa using h3, ⟨by simp [hin.1], fun q z hz => ?_, fun q k z u b hqk hz hu hzb hub => ?_⟩, fun q z hz => ?_⟩, grown_trans_row h2 h4⟩
 · rcases cas q z hz with ⟨rfl, rfl⟩ | ⟨q', hq, hne, hc⟩
   · rw [nthL_set_same (by rw [List.length_set]; exact ht)]
     exact (row _ _ _ hr).mono hB
   · have o := row _ _ _ (hin.2.1 q' z hq)
     rcases hc with ⟨rfl, rfl⟩ | ⟨h1, rfl⟩
     · rw [nthL_set_ne (Ne.symm hne), nthL_set_same hi']; exact o
     · rw [nthL_set_ne (Ne.symm hne), nthL_set_ne (Ne.symm h1)]; exact o
 · rcases cas q z hz with ⟨rfl, rfl⟩ | ⟨q', hqv, hne, hc⟩ <;> rcases cas k u hu with ⟨rfl, rfl⟩ | ⟨k', hk, hke, hd⟩
   · omega
   · have a1 := (hr.lt b hzb).1
     have a2 := hlow u (hQ k' u hk) b hub
     omega
   · have a1 := (hr.lt b hub).1
     have a2 := hlow z (hQ q' z hqv) b hzb
     omega
   · exact hin.2.2 q' k' z u b (by omega) hqv hk hzb hub
 · rcases cas q z hz with ⟨rfl, rfl⟩ | ⟨q', hq', _, _⟩
   · exact hq
   · exact hQQ z (hQ q' z hq')
theorem OwnSQ.swap (h : OwnSQ w B (.slice (some ⟨g, 0, none⟩) n c) yss Q) {i j : Nat} (hi : i < yss.length) (hj : j < yss.length) (hij : i ≠ j) {x y : Value} (hx : w.cell? ⟨g, i, none⟩ = some x) (hy : w.cell? ⟨g, j, none⟩ = some y) :
    OwnSQ ((w.setCell ⟨g, i, none⟩ y).setCell ⟨g, j, none⟩ x) B (.slice (some ⟨g, 0, none⟩) n c) ((yss.set i (nthL yss j)).set j (nthL yss i)) Q ∧ w.grownBy ((w.setCell ⟨g, i, none⟩ y).setCell ⟨g, j, none⟩ x) (some g) := by
 have e := h.own.len
 subst e
 obtain ⟨hl, vs, ho, hin, hQ⟩ := h
 have vx : vs[i]? = some x := by rw [← ho.cellAt i (by omega)]; exact hx
 have vy : vs[j]? = some y := by rw [← ho.cellAt j (by omega)]; exact hy
 obtain ⟨h1, h2⟩ := ho.stored i y
 obtain ⟨h3, h4⟩ := h1.stored j x
 have row : ∀ (z : Value) (B2 : Nat) (xs : List Int), Own w B2 z xs → Own ((w.setCell ⟨g, i, none⟩ y).setCell ⟨g, j, none⟩ x) B2 z xs := fun z B2 xs hz => row_grow h1 h4 (row_grow ho h2 hz)
 have hil : i < vs.length := by rw [hin.1]; exact hi
 have hjl : j < vs.length := by rw [hin.1]; exact hj
 have cas : ∀ (q : Nat) (z : Value), ((vs.set i y).set j x)[q]? = some z → ∃ q', vs[q']? = some z ∧ ((q = j ∧ q' = i) ∨ (q = i ∧ q ≠ j ∧ q' = j) ∨ (q ≠ i ∧ q ≠ j ∧ q' = q)) := fun q z hz => by
  by_cases e : q = j
  · subst e
    rw [List.getElem?_set_self (by rw [List.length_set]; exact hjl)] at hz
    injection hz with hz
    subst hz
    exact ⟨i, vx, .inl ⟨rfl, rfl⟩⟩
  · rw [List.getElem?_set_ne (Ne.symm e)] at hz
    by_cases e2 : q = i
    · subst e2
      rw [List.getElem?_set_self hil] at hz
      injection hz with hz
      subst hz
      exact ⟨j, vy, .inr (.inl ⟨rfl, e, rfl⟩)⟩
    · rw [List.getElem?_set_ne (Ne.symm e2)] at hz
      exact ⟨q, hz, .inr (.inr ⟨e2, e, rfl⟩)⟩
 refine ⟨⟨by simpa using hl, (vs.set i y).set j x, by simpa using h3, ⟨by simp [hin.1], fun q z hz => ?_, fun q k z u b hqk hz hu hzb hub => ?_⟩, fun q z hz => ?_⟩, grown_trans_row h2 h4⟩
 · obtain ⟨q', hq, hc⟩ := cas q z hz
   have o := row _ _ _ (hin.2.1 q' z hq)
   rcases hc with ⟨rfl, rfl⟩ | ⟨rfl, hne, rfl⟩ | ⟨h1, h2, rfl⟩
   · rw [nthL_set_same (by rw [List.length_set]; exact hj)]; exact o
   · rw [nthL_set_ne (Ne.symm hne), nthL_set_same hi]; exact o
   · rw [nthL_set_ne (Ne.symm h2), nthL_set_ne (Ne.symm h1)]; exact o
 · obtain ⟨q', hq, hc⟩ := cas q z hz
   obtain ⟨k', hk, hd⟩ := cas k u hu
   exact hin.2.2 q' k' z u b (by omega) hq hk hzb hub
 · obtain ⟨q', hq, _⟩ := cas q z hz
   exact hQ q' z hq
end
end Go.Proofs.YtkiljcbejmiioaaGreat
namespace Go.Proofs.YtkiljcbejmiioaaGreat
open Go.RowKit
theorem capTo_anti {b l : Int} {j k : Nat} (hjk : j ≤ k) (h : capTo b l k ≤ l) : capTo b l j ≤ l := by
 rcases Int.lt_or_le l (capTo b l j) with h1 | h1
 · have := capTo_stop (b := b) (l := l) (k := j) (by omega) k hjk
   omega
 · exact h1
end Go.Proofs.YtkiljcbejmiioaaGreat
namespace Go.Proofs.YtkiljcbejmiioaaGreat
open Go.RowKit
theorem Blk.grown {w w' : World} {g : Nat} {t : TypeId} {cs : Array Value} {row : Option Nat} (h : Blk w g t cs) (hg : w.grownBy w' row) (hne : row ≠ some g) : Blk w' g t cs := (hg.block g h.lt (Ne.symm hne)).trans h
end Go.Proofs.YtkiljcbejmiioaaGreat
namespace Go.Proofs.YtkiljcbejmiioaaGreat
open Go.RowKit
section
variable {w : World} {B hi : Nat} {v : Value} {xss : List (List Int)} {xs : List Int} {ar : Option Addr} {cr : Nat}
theorem run_append_read (hown : OwnSH w B hi v xss) (g1 : Nat) (hc : w.cell? ⟨g1, 0, none⟩ = some (.slice ar xs.length cr)) (hr : Rd w ar xs) (hrB : ∀ p, ar = some p → p.block < B) (hB : B ≤ w.heap.size) (hl : xss.length + 1 ≤ 1073741824) (ty : TypeId) :
    ∃ a' c' w', (Builtin.append_ #[24, 24] ty #[v, .slice (some ⟨g1, 0, none⟩) 1 1]).run Tryz.prog w = .ok (.slice a' (xss ++ [xs]).length c') w' ∧ RdS w' a' (xss ++ [xs]) ∧ Below B w w' := by
 obtain ⟨i0, hi0, hz0, hz1, hz2⟩ := info_parts Tryz.info_row
 obtain ⟨hxl, vs, hrow, hin, hv, hb⟩ := hown
 have hvB : ∀ k, v.ownBlock = some k → B ≤ k := fun k hk => (hv k hk).1
 obtain ⟨v', w', h1, h2, h3, _, h5⟩ := run_append_own_at (P := Tryz.prog) w B 24 ty 28 i0 (.slice none 0 0) 1 24 Tryz.underlying24 hi0 hz0 hz1 hz2 rfl (by omega) v xss.length vs hrow ⟨g1, 0, none⟩ 1 1 [.slice ar xs.length cr] rfl
  (fun j u hu => by
   have hj := (List.getElem?_eq_some_iff.1 hu).1
   simp at hj
   subst hj
   injection hu with hu
   subst hu
   rw [Addr.add_lit]; exact hc)
  (by intro u hu; rw [List.mem_singleton.1 hu]; rfl) (by unfold maxLen; omega) (by omega) (by omega)
 have hvl := hin.1
 have hbel : Below B w w' := (Below.refl B w).grown h3 hB hvB
 have grow : ∀ (x : Value) (B' : Nat) (zs : List Int), Own w B' x zs → Own w' B' x zs := fun x B' zs ho => ho.grow h3 (by
  rcases hxb : x.ownBlock with _ | k
  · exact .inl rfl
  · exact .inr fun e => Own.notSliceBlock hrow ho k hxb e.symm)
 have hrd : Rd w' ar xs := hr.grow h3 (fun p hp e => by have := hrB p hp; have := hvB p.block e.symm; omega)
 have h2' := h2
 rcases h2.2 with ⟨_, h0⟩ | ⟨g, cap, cur, rfl, _, hg, hn, hm, hs, ht⟩
 · simp at h0
 · have hlen : (xss ++ [xs]).length = xss.length + 1 := by simp
   refine ⟨some ⟨g, 0, none⟩, cap, w', by rw [h1, hlen], ⟨by rw [hlen]; exact hl, fun _ => ⟨g, 0, rfl, fun i hi => ?_⟩⟩, hbel⟩
   rw [hlen] at hi
   rw [Nat.zero_add, h2'.cellAt i (by simpa using hi)]
   by_cases hil : i < vs.length
   · have e : nthL (xss ++ [xs]) i = nthL xss i := by rw [nthL, nthL, List.getD_eq_getElem?_getD, List.getElem?_append_left (by omega), ← List.getD_eq_getElem?_getD]
     have ho := grow _ _ _ (hin.2.1 i vs[i] (List.getElem?_eq_getElem hil))
     obtain ⟨a, c, e2, hr2, _⟩ := ho.form
     rw [List.getElem?_append_left hil, List.getElem?_eq_getElem hil, e]
     exact ⟨a, c, by rw [← e2], hr2⟩
   · obtain rfl : i = vs.length := by omega
     have e : nthL (xss ++ [xs]) vs.length = xs := by simp [nthL, hvl]
     rw [e]
     exact ⟨ar, cr, by simp, hrd⟩
theorem wpList_append_read {ops : Array Oper} {rest : List Oper} {o : Oper} {a : Act} {Q : Exit → Act → World → Prop} (hgd : o.guard = none) (s x : Operand)
    (ho : o.op = .call { callee := .builtin .append, args := #[s, x], argTypes := #[24, 24] })
    (hs : a.eval s = v) (hown : OwnSH w B hi v xss) (g1 : Nat) (hx : a.eval x = .slice (some ⟨g1, 0, none⟩) 1 1) (hc : w.cell? ⟨g1, 0, none⟩ = some (.slice ar xs.length cr)) (hr : Rd w ar xs) (hrB : ∀ p, ar = some p → p.block < B) (hB : B ≤ w.heap.size) (hl : xss.length + 1 ≤ 1073741824)
    (h : ∀ a' c' w', RdS w' a' (xss ++ [xs]) → Below B w w' → wpList Tryz.prog ops Q rest (a.put o.dst (.slice a' (xss ++ [xs]).length c')) w') :
    wpList Tryz.prog ops Q (o :: rest) a w :=
 wpList_plain hgd fun K hK => by
  obtain ⟨a', c', w', hrun, h2, h3⟩ := run_append_read hown g1 hc hr hrB hB hl o.type
  unfold Oper.wp execOp
  simp only [ho, resolve, invoke, builtin, Sem.run_bind, Sem.run_pure, Result.andThen_ok, List.map_toArray, List.map_cons, List.map_nil, hs, hx, hrun]
  exact hK _ _ (h a' c' w' h2 h3)
end
end Go.Proofs.YtkiljcbejmiioaaGreat
namespace Go.Proofs.YtkiljcbejmiioaaGreat
open Go.RowKit
def suppTo (xs : List Int) (k : Nat) : List Int := ((List.range k).filter (fun i => nth xs i != 0)).map Int.ofNat
theorem suppTo_hit {xs : List Int} {k : Nat} (h : (nth xs k != 0) = true) : suppTo xs (k + 1) = suppTo xs k ++ [(k : Int)] := by
 simp only [suppTo, List.range_succ, List.filter_append, List.map_append, List.filter_cons, h]; rfl
theorem suppTo_miss {xs : List Int} {k : Nat} (h : (nth xs k != 0) = false) : suppTo xs (k + 1) = suppTo xs k := by
 simp [suppTo, List.range_succ, List.filter_append, h]
theorem suppTo_len (xs : List Int) (k : Nat) : (suppTo xs k).length ≤ k := by
 simp only [suppTo, List.length_map]
 exact Nat.le_trans (List.length_filter_le _ _) (by simp)
theorem supportOf_any (a : Option Addr) (c : Nat) (xs : List Int) (w : World) (hx : Rd w a xs) :
    Calls Tryz.prog 93 #[.slice a xs.length c] w fun e w' => ∃ v, e = .returned v ∧ Own w' w.heap.size v (suppTo xs xs.length) ∧ Below w.heap.size w w' := by
 have hxl := hx.len
 go_enter Tryz.func93, Tryz.ntmps93
 go_wp2
 go_loopw [3, 8] (fun v i wr => ∃ (k : Nat), i = .int .i64 k ∧ k ≤ xs.length ∧ Own wr w.heap.size v (suppTo xs k) ∧ Below w.heap.size w wr) (fun _ i _ => xs.length - (intOf i).toNat)
 case atStart => exact ⟨0, rfl, by omega, Own.nil _ _, Below.refl _ _⟩
 case round =>
  obtain ⟨k, rfl, hk, ho, hb⟩ := hrel
  by_cases hkl : k < xs.length
  · obtain ⟨b1, o1, rfl, hb1, hcx⟩ := hx.at_ (by omega)
    have hx1 := (hb.cell (p := ⟨b1, o1 + k, none⟩) hb1).trans (hcx k hkl)
    have hs := suppTo_len xs k
    have hsz := hb.size
    clear hcx hx
    go_wp2_with (at_builtin; refine wpList_append_ints rfl (.tmp 15) (.tmp 17) rfl w.heap.size u3 (suppTo xs k) [(k : Int)] rfl (ho.alloc _) _ 1 1 rfl rfl (Rd.one wr (k : Int) _) (by simp; omega) (by simp; omega) ?_; intro v1 w1 hown1 hg1 _)
    · go_roundw
      case rel => exact ⟨k + 1, by go_num, by omega, by rw [suppTo_hit ‹_›]; exact hown1, Below.step (hb.alloc hsz _) hg1 (ho.alloc _) (Nat.le_refl _) (by simp; omega)⟩
      case measure => simp [intOf]; omega
    · go_roundw
      case rel => exact ⟨k + 1, by go_num, by omega, by rw [suppTo_miss ‹_›]; exact ho, hb⟩
      case measure => simp [intOf]; omega
  · go_wp2
    go_ret
    obtain rfl : k = xs.length := by omega
    exact ⟨_, rfl, ho, hb⟩
end Go.Proofs.YtkiljcbejmiioaaGreat
namespace Go.Proofs.YtkiljcbejmiioaaGreat
open Go.RowKit
theorem capTo_eq {b l : Int} (hb : 1 ≤ b) {m : Nat} (h : capTo b l m ≤ l) : capTo b l m = b ^ m := by
 induction m with
 | zero => simp [capTo]
 | succ m ih =>
  have h1 := capTo_anti (show m ≤ m + 1 by omega) h
  rw [capTo_go h1, ih h1, Int.pow_succ]
end Go.Proofs.YtkiljcbejmiioaaGreat
