/-
  Texts joined.
-/
import Derived.Laws.StructEq
import Derived.Test.YtgfcbmflnldicaaGreatRF1
set_option linter.unusedVariables false
set_option linter.unusedSimpArgs false
set_option maxRecDepth 100000
set_option maxHeartbeats 40000000
namespace Go.Proofs.YtgfcbmflnldicaaGreat
open Go.RowKit
def nthE (es : List (Int × Int)) (i : Nat) : Int × Int := es.getD i (0, 0)
theorem nthE_lt {es : List (Int × Int)} {i : Nat} (h : i < es.length) : nthE es i = es[i] := by simp [nthE, h]
theorem nthE_mem {es : List (Int × Int)} {i : Nat} (h : i < es.length) : nthE es i ∈ es := by rw [nthE_lt h]; exact List.getElem_mem h
def RdE (w : World) (a : Option Addr) (es : List (Int × Int)) : Prop :=
 es.length ≤ 1073741824 ∧ (0 < es.length → ∃ b off, a = some ⟨b, off, none⟩ ∧ ∀ i, i < es.length → w.cell? ⟨b, off + i * 2, none⟩ = some (.int .i64 (nthE es i).1) ∧ w.cell? ⟨b, off + i * 2 + 1, none⟩ = some (.int .i64 (nthE es i).2))
section
variable {w w' : World} {a : Option Addr} {es : List (Int × Int)} {B : Nat}
theorem RdE.len (h : RdE w a es) : es.length ≤ 1073741824 := h.1
theorem RdE.at_ (h : RdE w a es) (h0 : 0 < es.length) : ∃ b off, a = some ⟨b, off, none⟩ ∧ b < w.heap.size ∧ ∀ i, i < es.length → w.cell? ⟨b, off + i * 2, none⟩ = some (.int .i64 (nthE es i).1) ∧ w.cell? ⟨b, off + i * 2 + 1, none⟩ = some (.int .i64 (nthE es i).2) := by
 obtain ⟨b, off, e, hc⟩ := h.2 h0
 exact ⟨b, off, e, World.block_lt_of_cell? w _ (hc 0 h0).1, hc⟩
theorem RdE.keep (h : RdE w a es) (hk : ∀ p : Addr, p.block < w.heap.size → w'.cell? p = w.cell? p) : RdE w' a es :=
 ⟨h.1, fun h0 => by
  obtain ⟨b, off, e, hb, hc⟩ := h.at_ h0
  exact ⟨b, off, e, fun i hi => ⟨(hk _ hb).trans (hc i hi).1, (hk _ hb).trans (hc i hi).2⟩⟩⟩
theorem RdE.below (h : RdE w a es) (hb : Below w.heap.size w w') : RdE w' a es := h.keep fun _ hp => hb.cell hp
theorem RdE.nil (w : World) (a : Option Addr) : RdE w a [] := ⟨by simp, fun h => by simp at h⟩
theorem RdE.drewN (h : RdE w a es) (k : Nat) : RdE (w.drewN k) a es := h.keep fun _ _ => by simp
theorem RdE.alloc (h : RdE w a es) (o : Obj) : RdE (w.alloc o) a es := h.keep fun p hp => World.cell?_alloc_lt w o p hp
end
def flatE (es : List (Int × Int)) : List Value := es.flatMap fun e => [.int .i64 e.1, .int .i64 e.2]
theorem flatE_len (es : List (Int × Int)) : (flatE es).length = es.length * 2 := by
 induction es with
 | nil => rfl
 | cons e es ih => simp only [flatE, List.flatMap_cons, List.length_append, List.length_cons, List.length_nil] at ih ⊢; omega
theorem flatE_get (es : List (Int × Int)) {i : Nat} (h : i < es.length) : (flatE es)[i * 2]? = some (.int .i64 (nthE es i).1) ∧ (flatE es)[i * 2 + 1]? = some (.int .i64 (nthE es i).2) := by
 induction es generalizing i with
 | nil => simp at h
 | cons e es ih =>
  cases i with
  | zero => exact ⟨rfl, rfl⟩
  | succ i =>
   have := ih (i := i) (by simpa using h)
   have e1 : (i + 1) * 2 = i * 2 + 1 + 1 := by omega
   rw [e1]
   simpa [flatE, nthE] using this
def OwnE (w : World) (B : Nat) (v : Value) (es : List (Int × Int)) : Prop :=
 es.length ≤ 1073741824 ∧ w.ownsRow B 142 2 v es.length (flatE es)
section
variable {w w' : World} {v : Value} {es : List (Int × Int)} {B B' : Nat}
theorem OwnE.form (h : OwnE w B v es) : ∃ a c, v = .slice a es.length c ∧ RdE w a es ∧ (∀ k, v.ownBlock = some k → B ≤ k ∧ k < w.heap.size) := by
 obtain ⟨hl, h⟩ := h
 have hlt := h.lt
 have h2 := h
 rcases h.2 with ⟨rfl, h0⟩ | ⟨g, cap, cur, rfl, hb, hg, hn, hm, hs, ht⟩
 · exact ⟨none, 0, by rw [h0], ⟨hl, fun hh => by omega⟩, hlt⟩
 · refine ⟨some ⟨g, 0, none⟩, cap, rfl, ⟨hl, fun _ => ⟨g, 0, rfl, fun i hi => ?_⟩⟩, hlt⟩
   have e := flatE_get es hi
   have c1 := h2.cells (g := g) rfl _ _ e.1
   have c2 := h2.cells (g := g) rfl _ _ e.2
   rw [Addr.add_lit] at c1 c2
   rw [Nat.zero_add] at c1 c2 ⊢
   exact ⟨c1, c2⟩
theorem OwnE.mono (h : OwnE w B v es) (hB : B' ≤ B) : OwnE w B' v es := by
 obtain ⟨hl, h1, h2⟩ := h
 refine ⟨hl, h1, ?_⟩
 rcases h2 with h2 | ⟨g, cap, cur, e, hb, r⟩
 · exact .inl h2
 · exact .inr ⟨g, cap, cur, e, by omega, r⟩
theorem OwnE.below {B1 : Nat} (h : OwnE w B v es) (hb : Below B1 w w') (hlt : w.heap.size ≤ B1) : OwnE w' B v es := by
 obtain ⟨hl, h1, h2⟩ := h
 refine ⟨hl, h1, ?_⟩
 rcases h2 with h2 | ⟨g, cap, cur, e, hB, hg, r⟩
 · exact .inl h2
 · refine .inr ⟨g, cap, cur, e, hB, ?_, r⟩
   rw [hb.block g (by have := (Array.getElem?_eq_some_iff.1 hg).1; omega)]; exact hg
theorem OwnE.of_rowIs {b n : Nat} {f : Nat → Value} (h : w.rowIs b 142 (n * 2) f) (hB : B ≤ b) (hn : es.length = n) (hl : es.length ≤ 1073741824) (hf : ∀ i, i < n → f (i * 2) = .int .i64 (nthE es i).1 ∧ f (i * 2 + 1) = .int .i64 (nthE es i).2) :
    OwnE w B (.slice (some ⟨b, 0, none⟩) n n) es := by
 obtain ⟨c, hb, hc, hi⟩ := h
 subst hn
 refine ⟨hl, flatE_len es, .inr ⟨b, _, c, rfl, hB, hb, Nat.le_refl _, by unfold maxLen; omega, by omega, ?_⟩⟩
 apply List.ext_getElem?
 intro i
 rw [List.getElem?_take]
 split
 · rename_i hlt
   rw [Array.getElem?_toList, hi i hlt]
   have h2 : i / 2 < es.length := by omega
   rcases Nat.mod_two_eq_zero_or_one i with h0 | h1
   · have e : i = i / 2 * 2 := by omega
     rw [e, (hf _ h2).1, (flatE_get es h2).1]
   · have e : i = i / 2 * 2 + 1 := by omega
     rw [e, (hf _ h2).2, (flatE_get es h2).2]
 · rw [List.getElem?_eq_none (by rw [flatE_len]; omega)]
end
theorem Tryz.info_edge : (Tryz.prog.info? 142).map (fun i => (i.zero, i.size, i.bytes)) = some (some (.agg #[.int .i64 0, .int .i64 0]), 2, 16) := by kernel_rfl
theorem edge_neq (a b c d : Int) (w : World) : (binOp .neq 142 (.agg #[.int .i64 a, .int .i64 b]) (.agg #[.int .i64 c, .int .i64 d])).run Tryz.prog w = .ok (.bool (decide ((a, b) ≠ (c, d)))) w := by
 have hS : Tryz.prog.underlying 142 = some (.struct (Tryz.prog.fieldsOf 142)) := by kernel_rfl
 have hp : Tryz.prog.stoodInHeld 142 = false := by kernel_rfl
 have u := Tryz.underlying2
 have a3 := Tryz.isAgg2
 have z3 := Tryz.sizeOf2
 rw [run_neq_struct, show (10000 : Nat) = 9999 + 1 from rfl, run_equalIn_agg w 9999 _ _ _ hS hp]
 simp only [Program.fieldsOf, Tryz.underlying142]
 go_simp
 by_cases h1 : a = c <;> by_cases h2 : b = d <;> simp [h1, h2]
theorem edge_guard : Tryz.prog.eqGuardType Tryz.prog.depth 142 = false := by kernel_rfl
end Go.Proofs.YtgfcbmflnldicaaGreat
namespace Go.Proofs.YtgfcbmflnldicaaGreat
open Go.RowKit
theorem Tryz.info_bool : (Tryz.prog.info? 4).map (fun i => (i.zero, i.size, i.bytes)) = some (some (.bool false), 1, 1) := by kernel_rfl
theorem Tryz.info_brow : (Tryz.prog.info? 188).map (fun i => (i.zero, i.size, i.bytes)) = some (some (.slice none 0 0), 1, 24) := by kernel_rfl
theorem grownBy_setC (w : World) (q b : Nat) (v : Value) : w.grownBy (w.setCell ⟨q, b, none⟩ v) (some q) :=
 have h := (Below.refl 0 w).setCell (p := ⟨q, b, none⟩) (Nat.zero_le _) v
 ⟨h.os, h.tape, h.output, h.size, fun i _ hne => Below.heap_setCell w _ v i (fun e => hne (by rw [e]))⟩
theorem ownsRow_mono {w : World} {B B' e size n : Nat} {v : Value} {vs : List Value} (h : w.ownsRow B e size v n vs) (hB : B' ≤ B) : w.ownsRow B' e size v n vs := by
 obtain ⟨h1, h2⟩ := h
 refine ⟨h1, ?_⟩
 rcases h2 with h2 | ⟨g, cap, cur, e, hb, r⟩
 · exact .inl h2
 · exact .inr ⟨g, cap, cur, e, by omega, r⟩
def TabB (w : World) (B : Nat) (v : Value) (k n : Nat) (T : Nat → Nat → Bool) : Prop :=
 ∃ f : Nat → Nat, w.ownsRow B 188 1 v k ((List.range k).map fun i => .slice (some ⟨f i, 0, none⟩) n n) ∧
  (∀ i, i < k → B ≤ f i ∧ w.rowIs (f i) 4 n (fun j => .bool (T i j))) ∧ (∀ i j, i < k → j < k → f i = f j → i = j)
section
variable {w w' : World} {B g c : Nat} {v : Value} {k n : Nat} {T T' : Nat → Nat → Bool}
theorem TabB.empty (w : World) {B : Nat} (hB : B ≤ w.heap.size) (n : Nat) (T : Nat → Nat → Bool) : TabB (w.alloc (.cells #[] 188)) B (.slice (some ⟨w.heap.size, 0, none⟩) 0 0) 0 n T :=
 ⟨fun _ => 0, World.ownsRow_made w #[] 0 hB (by simp) rfl, fun i hi => by omega, fun i j hi => by omega⟩
theorem TabB.below (h : TabB w B v k n T) (hb : Below w.heap.size w w') : TabB w' B v k n T := by
 obtain ⟨f, h1, h2, h3⟩ := h
 exact ⟨f, ownsRow_below h1 hb (Nat.le_refl _), fun i hi => ⟨(h2 i hi).1, (h2 i hi).2.of_block (hb.block _ (h2 i hi).2.lt)⟩, h3⟩
theorem TabB.mono {B' : Nat} (h : TabB w B v k n T) (hB : B' ≤ B) : TabB w B' v k n T := by
 obtain ⟨f, h1, h2, h3⟩ := h
 exact ⟨f, ownsRow_mono h1 hB, fun i hi => ⟨by have := (h2 i hi).1; omega, (h2 i hi).2⟩, h3⟩
theorem TabB.congr (h : TabB w B v k n T) (e : ∀ i j, i < k → j < n → T i j = T' i j) : TabB w B v k n T' := by
 obtain ⟨f, h1, h2, h3⟩ := h
 refine ⟨f, h1, fun i hi => ⟨(h2 i hi).1, ?_⟩, h3⟩
 obtain ⟨c, hc, hs, hv⟩ := (h2 i hi).2
 exact ⟨c, hc, hs, fun j hj => by rw [hv j hj]; simp only [e i j hi hj]⟩
theorem TabB.lt (h : TabB w B v k n T) : In v B w.heap.size := by
 obtain ⟨f, h1, _⟩ := h
 exact h1.lt
theorem TabB.form (h : TabB w B v k n T) : ∃ a c, v = .slice a k c := by
 obtain ⟨f, h1, _⟩ := h
 rcases h1.2 with ⟨rfl, rfl⟩ | ⟨g, cap, cur, rfl, _⟩
 · exact ⟨_, _, rfl⟩
 · exact ⟨_, _, rfl⟩
theorem ownsRow_ne_rowIs {e t : TypeId} {g q m cap : Nat} {vs : List Value} {f : Nat → Value} (h1 : w.ownsRow B e 1 (.slice (some ⟨g, 0, none⟩) m cap) m vs) (h2 : w.rowIs q t n f) (hne : e ≠ t) : g ≠ q := by
 rintro rfl
 obtain ⟨c, hc, _⟩ := h2
 rcases h1.2 with ⟨e0, _⟩ | ⟨g', cap', cur, e0, _, hg, _⟩
 · cases e0
 · injection e0 with e0 _ _
   injection e0 with e0
   injection e0 with e0 _ _
   subst e0
   rw [hc] at hg
   injection hg with hg
   injection hg with _ h3 _
   exact hne h3.symm
theorem TabB.at_ (h : TabB w B (.slice (some ⟨g, 0, none⟩) k c) k n T) {a b : Nat} (ha : a < k) (hb : b < n) :
    ∃ q, w.cell? ⟨g, a, none⟩ = some (.slice (some ⟨q, 0, none⟩) n n) ∧ w.cell? ⟨q, b, none⟩ = some (.bool (T a b)) ∧ w.frozen? ⟨q, b, none⟩ = false ∧ B ≤ q ∧ q < w.heap.size ∧ g ≠ q ∧
     ∀ x : Bool, TabB (w.setCell ⟨q, b, none⟩ (.bool x)) B (.slice (some ⟨g, 0, none⟩) k c) k n (fun i j => if i = a ∧ j = b then x else T i j) := by
 obtain ⟨f, h1, h2, h3⟩ := h
 obtain ⟨hB, hr⟩ := h2 a ha
 have hne : g ≠ f a := ownsRow_ne_rowIs h1 hr (by decide)
 refine ⟨f a, ?_, hr.cell hb, hr.frozen b, hB, hr.lt, hne, fun x => ⟨f, ?_, fun i hi => ⟨(h2 i hi).1, ?_⟩, h3⟩⟩
 · rw [h1.cellAt a (by omega), List.getElem?_map, List.getElem?_range ha]; rfl
 · refine h1.kept (row := some (f a)) ?_ (.inr ?_)
   · exact grownBy_setC w _ _ _
   · simp only [Value.ownBlock, ne_eq, Option.some.injEq]; exact hne
 · by_cases e : i = a
   · subst e
     obtain ⟨cc, q1, q2, q3⟩ := hr.set b (.bool x)
     refine ⟨cc, q1, q2, fun j hj => (q3 j hj).trans ?_⟩
     by_cases e2 : j = b
     · simp [e2]
     · simp [e2]
   · have hr2 := (h2 i hi).2
     have hfi : f i ≠ f a := fun e2 => e (h3 i a hi ha e2)
     obtain ⟨cc, q1, q2, q3⟩ := hr2.of_block (Below.heap_setCell w ⟨f a, b, none⟩ (.bool x) (f i) hfi)
     exact ⟨cc, q1, q2, fun j hj => by rw [q3 j hj]; dsimp only; rw [if_neg (fun h => e h.1)]⟩
theorem TabB.push (h : TabB w B v k n T) (hB : B ≤ w.heap.size) (hT : ∀ j, j < n → T k j = false) {w1 : World} {g1 q : Nat} (hb : Below w.heap.size w w1) (hq : w.heap.size ≤ q) (hr : w1.rowIs q 4 n (fun _ => .bool false))
    (hc : w1.cell? ⟨g1, 0, none⟩ = some (.slice (some ⟨q, 0, none⟩) n n)) (hk : k + 1 ≤ 1073741824) (ty : TypeId) :
    ∃ v' w', (Builtin.append_ #[186, 186] ty #[v, .slice (some ⟨g1, 0, none⟩) 1 1]).run Tryz.prog w1 = .ok v' w' ∧ TabB w' B v' (k + 1) n T ∧ w1.grownBy w' v.ownBlock ∧ (v'.ownBlock = v.ownBlock ∨ v'.ownBlock = some w1.heap.size) := by
 obtain ⟨i0, hi0, hz0, hz1, hz2⟩ := info_parts Tryz.info_brow
 have hin := h.lt
 obtain ⟨f, h1, h2, h3⟩ := h
 have h1' := ownsRow_below h1 hb (Nat.le_refl _)
 have hsz := hb.size
 obtain ⟨v', w', r1, r2, r3, _, r5⟩ := run_append_own_at (P := Tryz.prog) w1 B 186 ty 188 i0 (.slice none 0 0) 1 24 Tryz.underlying186 hi0 hz0 hz1 hz2 rfl (by omega) v k _ h1' ⟨g1, 0, none⟩ 1 1 [.slice (some ⟨q, 0, none⟩) n n] rfl
  (fun j u hu => by
   have hj := (List.getElem?_eq_some_iff.1 hu).1
   simp at hj
   subst hj
   injection hu with hu
   subst hu
   rw [Addr.add_lit]; exact hc)
  (by intro u hu; rw [List.mem_singleton.1 hu]; rfl) (by unfold maxLen; omega) (by omega) (by omega)
 have keep : ∀ (i : Nat) (F : Nat → Value), w1.rowIs i 4 n F → w'.rowIs i 4 n F := fun i F hi => hi.of_block (r3.block _ hi.lt (fun e => by
  rcases h1'.2 with ⟨e0, _⟩ | ⟨g', cap', cur, e0, hBg, hg, _⟩
  · rw [e0] at e; cases e
  · subst e0
    exact ownsRow_ne_rowIs h1' hi (by decide) (by simpa [Value.ownBlock] using e.symm)))
 have hlt : ∀ i, i < k → f i < w.heap.size := fun i hi => (h2 i hi).2.lt
 refine ⟨v', w', r1, ⟨fun i => if i = k then q else f i, ?_, fun i hi => ?_, fun i j hi hj e => ?_⟩, r3, r5⟩
 · rw [List.range_succ, List.map_append]
   have e : ((List.range k).map fun i => Value.slice (some ⟨if i = k then q else f i, 0, none⟩) n n) = (List.range k).map fun i => Value.slice (some ⟨f i, 0, none⟩) n n := by
    refine List.map_congr_left fun i hi => ?_
    rw [if_neg (by have := List.mem_range.1 hi; omega)]
   rw [e]
   simpa using r2
 · by_cases e : i = k
   · subst e
     simp only [if_true]
     refine ⟨by omega, ?_⟩
     obtain ⟨cc, q1, q2, q3⟩ := keep q _ hr
     exact ⟨cc, q1, q2, fun j hj => by rw [q3 j hj]; simp only [hT j hj]⟩
   · simp only [if_neg e]
     have h := h2 i (by omega)
     exact ⟨h.1, keep _ _ (h.2.of_block (hb.block _ h.2.lt))⟩
 · dsimp only at e
   by_cases e1 : i = k <;> by_cases e2 : j = k
   · omega
   · rw [if_pos e1, if_neg e2] at e
     have := hlt j (by omega)
     omega
   · rw [if_neg e1, if_pos e2] at e
     have := hlt i (by omega)
     omega
   · rw [if_neg e1, if_neg e2] at e
     exact h3 i j (by omega) (by omega) e
end
theorem wpList_append_of {P : Program} {w w' : World} {v u v' : Value} {t : TypeId} {ops : Array Oper} {rest : List Oper} {o : Oper} {a : Act} {Q : Exit → Act → World → Prop} (hgd : o.guard = none) (s x : Operand)
    (ho : o.op = .call { callee := .builtin .append, args := #[s, x], argTypes := #[t, t] }) (hs : a.eval s = v) (hx : a.eval x = u)
    (hrun : (Builtin.append_ #[t, t] o.type #[v, u]).run P w = .ok v' w') (h : wpList P ops Q rest (a.put o.dst v') w') : wpList P ops Q (o :: rest) a w := by
 refine wpList_plain hgd fun K hK => ?_
 unfold Oper.wp execOp
 simp only [ho, resolve, invoke, builtin, Sem.run_bind, Sem.run_pure, Result.andThen_ok, List.map_toArray, List.map_cons, List.map_nil, hs, hx, hrun]
 exact hK _ _ h
theorem wpList_append_brow {w w1 : World} {B : Nat} {v : Value} {k n : Nat} {T : Nat → Nat → Bool} {ops : Array Oper} {rest : List Oper} {o : Oper} {a : Act} {Q : Exit → Act → World → Prop} (hgd : o.guard = none) (s x : Operand)
    (ho : o.op = .call { callee := .builtin .append, args := #[s, x], argTypes := #[186, 186] })
    (hs : a.eval s = v) (h : TabB w B v k n T) (hB : B ≤ w.heap.size) (hT : ∀ j, j < n → T k j = false) (g1 q : Nat) (hx : a.eval x = .slice (some ⟨g1, 0, none⟩) 1 1) (hb : Below w.heap.size w w1) (hq : w.heap.size ≤ q) (hr : w1.rowIs q 4 n (fun _ => .bool false))
    (hc : w1.cell? ⟨g1, 0, none⟩ = some (.slice (some ⟨q, 0, none⟩) n n)) (hk : k + 1 ≤ 1073741824)
    (hn : ∀ v' w', TabB w' B v' (k + 1) n T → w1.grownBy w' v.ownBlock → wpList Tryz.prog ops Q rest (a.put o.dst v') w') : wpList Tryz.prog ops Q (o :: rest) a w1 := by
 obtain ⟨v', w', r1, r2, r3, _⟩ := h.push hB hT hb hq hr hc hk o.type
 exact wpList_append_of hgd s x ho hs hx r1 (hn v' w' r2 r3)
section
variable {w : World} {B : Nat} {v : Value} {es : List (Int × Int)} {e : Int × Int}
theorem flatE_snoc (es : List (Int × Int)) (e : Int × Int) : flatE (es ++ [e]) = flatE es ++ [.int .i64 e.1, .int .i64 e.2] := by simp [flatE]
theorem run_append_edge (hown : OwnE w B v es) (g1 : Nat) (h0 : w.cell? ⟨g1, 0, none⟩ = some (.int .i64 e.1)) (h1 : w.cell? ⟨g1, 1, none⟩ = some (.int .i64 e.2)) (hB : B ≤ w.heap.size) (hl : es.length + 1 ≤ 1073741824) (ty : TypeId) :
    ∃ v' w', (Builtin.append_ #[25, 25] ty #[v, .slice (some ⟨g1, 0, none⟩) 1 1]).run Tryz.prog w = .ok v' w' ∧ OwnE w' B v' (es ++ [e]) ∧ w.grownBy w' v.ownBlock ∧ (v'.ownBlock = v.ownBlock ∨ v'.ownBlock = some w.heap.size) := by
 obtain ⟨i0, hi0, hz0, hz1, hz2⟩ := info_parts Tryz.info_edge
 obtain ⟨v', w', r1, r2, r3, _, r5⟩ := run_append_own_at (P := Tryz.prog) w B 25 ty 142 i0 (.agg #[.int .i64 0, .int .i64 0]) 2 16 Tryz.underlying25 hi0 hz0 hz1 hz2 rfl (by omega) v es.length (flatE es) hown.2 ⟨g1, 0, none⟩ 1 1 [.int .i64 e.1, .int .i64 e.2] rfl
  (fun j u hu => by
   have hj := (List.getElem?_eq_some_iff.1 hu).1
   simp at hj
   rw [Addr.add_lit, Nat.zero_add]
   obtain rfl | rfl : j = 0 ∨ j = 1 := by omega
   · injection hu with hu; subst hu; exact h0
   · injection hu with hu; subst hu; exact h1)
  (by intro u hu; rcases List.mem_cons.1 hu with rfl | hu
      · rfl
      · rw [List.mem_singleton.1 hu]; rfl) (by unfold maxLen; omega) (by omega) (by omega)
 exact ⟨v', w', r1, ⟨by simpa using hl, by rw [flatE_snoc, List.length_append]; exact r2⟩, r3, r5⟩
theorem wpList_append_edge {ops : Array Oper} {rest : List Oper} {o : Oper} {a : Act} {Q : Exit → Act → World → Prop} (hgd : o.guard = none) (s x : Operand)
    (ho : o.op = .call { callee := .builtin .append, args := #[s, x], argTypes := #[25, 25] })
    (hs : a.eval s = v) (hown : OwnE w B v es) (e : Int × Int) (g1 : Nat) (hx : a.eval x = .slice (some ⟨g1, 0, none⟩) 1 1) (h0 : w.cell? ⟨g1, 0, none⟩ = some (.int .i64 e.1)) (h1 : w.cell? ⟨g1, 1, none⟩ = some (.int .i64 e.2)) (hB : B ≤ w.heap.size) (hl : es.length + 1 ≤ 1073741824)
    (hn : ∀ v' w', OwnE w' B v' (es ++ [e]) → w.grownBy w' v.ownBlock → (v'.ownBlock = v.ownBlock ∨ v'.ownBlock = some w.heap.size) → wpList Tryz.prog ops Q rest (a.put o.dst v') w') : wpList Tryz.prog ops Q (o :: rest) a w := by
 obtain ⟨v', w', r1, r2, r3, r4⟩ := run_append_edge hown g1 h0 h1 hB hl o.type
 exact wpList_append_of hgd s x ho hs hx r1 (hn v' w' r2 r3 r4)
theorem OwnE.nil (w : World) (B : Nat) : OwnE w B (.slice none 0 0) [] := ⟨by simp, World.ownsRow_nil _ _ _ _⟩
theorem OwnE.empty (w : World) {B : Nat} (hB : B ≤ w.heap.size) : OwnE (w.alloc (.cells #[] 142)) B (.slice (some ⟨w.heap.size, 0, none⟩) 0 0) [] :=
 ⟨by simp, World.ownsRow_made w #[] 0 hB (by simp) rfl⟩
theorem OwnE.lt (h : OwnE w B v es) : In v B w.heap.size := h.2.lt
theorem OwnE.len (h : OwnE w B v es) : es.length ≤ 1073741824 := h.1
theorem OwnE.rd {a : Option Addr} {n c : Nat} (h : OwnE w B (.slice a n c) es) : RdE w a es := by
 obtain ⟨a', c', e, hr, _⟩ := h.form
 injection e with e1 e2 e3
 subst e1; exact hr
theorem OwnE.slice_val (h : OwnE w B v es) : ∃ a c, v = .slice a es.length c := by
 obtain ⟨a, c, e, _⟩ := h.form
 exact ⟨a, c, e⟩
end
end Go.Proofs.YtgfcbmflnldicaaGreat
