/-
  Texts joined.
-/
import Derived.Test.YtgmgpcaahanmiaaH1
set_option linter.unusedVariables false
set_option linter.unusedSimpArgs false
set_option maxRecDepth 100000
set_option maxHeartbeats 40000000
namespace Go.Proofs.Ytgmgpcaahanmiaa
open Go.RowKit
def sameF (p d : Int) (xs : List Int) (p' d' : Int) (ys : List Int) : Bool := decide (p = p') && (decide (d = d') && decide (xs = ys))
theorem sameF_list (p d : Int) (xs ys : List Int) : sameF p d xs p d ys = decide (xs = ys) := by simp [sameF]
theorem sameF_no {p d p' d' : Int} {xs ys : List Int} (h : p ≠ p' ∨ d ≠ d') : sameF p d xs p' d' ys = false := by
 rcases h with h | h <;> simp [sameF, h]
theorem sameF_self (p d : Int) (xs : List Int) : sameF p d xs p d xs = true := by simp [sameF]
def sameC (p d : Int) (xs : List Int) (xss : List (List Int)) (p' d' : Int) (ys : List Int) (yss : List (List Int)) : Bool := sameF p d xs p' d' ys && decide (xss = yss)
theorem sameC_self (p d : Int) (xs : List Int) (xss : List (List Int)) : sameC p d xs xss p d xs xss = true := by simp [sameC, sameF_self]
theorem implSameField_any (p d p' d' : Int) (a b : Option Addr) (c c' : Nat) (xs ys : List Int) (w : World) (hx : Rd w a xs) (hy : Rd w b ys) :
    Calls Try.prog 119 #[.agg #[.int .i64 p, .int .i64 d, .slice a xs.length c], .agg #[.int .i64 p', .int .i64 d', .slice b ys.length c']] w fun e w' => e = .returned (.bool (sameF p d xs p' d' ys)) ∧ Below w.heap.size w w' := by
 have hb0 := ((Below.refl w.heap.size w).alloc (Nat.le_refl _) (.cells #[.int .i64 p, .int .i64 d, .slice a xs.length c] 34)).alloc (by simp) (.cells #[.int .i64 p', .int .i64 d', .slice b ys.length c'] 34)
 by_cases hp : p = p'
 · subst hp
   by_cases hd : d = d'
   · subst hd
     go_enter Try.func119, Try.ntmps119
     go_wp2_with fail
     refine (slicesEqual_any a b c c' xs ys _ (hx.below hb0) (hy.below hb0)).mono ?_
     rintro e w1 ⟨rfl, q1⟩
     have hb1 := hb0.trans (q1.below _)
     generalize hr : decide (xs = ys) = r
     have HR := Lib.hid hr
     clear hr
     cases r
     · go_wp2
       go_ret
       exact ⟨ret_bool (by rw [sameF_list]; exact HR.out.symm), hb1⟩
     · go_wp2
       go_ret
       exact ⟨ret_bool (by rw [sameF_list]; exact HR.out.symm), hb1⟩
   · have h1 : (d != d') = true := by simpa using hd
     have h2 : (d == d') = false := by simpa using hd
     have HD := Lib.hid hd
     clear hd
     go_enter Try.func119, Try.ntmps119
     go_wp2
     go_ret
     exact ⟨ret_bool (sameF_no (.inr HD.out)).symm, hb0⟩
 · have h1 : (p != p') = true := by simpa using hp
   have h2 : (p == p') = false := by simpa using hp
   have HD := Lib.hid hp
   clear hp
   go_enter Try.func119, Try.ntmps119
   go_wp2
   go_ret
   exact ⟨ret_bool (sameF_no (.inl HD.out)).symm, hb0⟩
theorem implSameCode_any (p d p' d' : Int) (a b ra rb : Option Addr) (c c' rc rc' : Nat) (xs ys : List Int) (xss yss : List (List Int)) (w : World) (hx : Rd w a xs) (hy : Rd w b ys) (hxs : RdS w ra xss) (hys : RdS w rb yss) :
    Calls Try.prog 37 #[.agg #[.int .i64 p, .int .i64 d, .slice a xs.length c, .slice ra xss.length rc], .agg #[.int .i64 p', .int .i64 d', .slice b ys.length c', .slice rb yss.length rc']] w fun e w' => e = .returned (.bool (sameC p d xs xss p' d' ys yss)) ∧ Below w.heap.size w w' := by
 obtain ⟨w0, hw0⟩ : ∃ w0, w0 = (w.alloc (.cells #[.int .i64 p, .int .i64 d, .slice a xs.length c, .slice ra xss.length rc] 37)).alloc (.cells #[.int .i64 p', .int .i64 d', .slice b ys.length c', .slice rb yss.length rc'] 37) := ⟨_, rfl⟩
 have hb0 : Below w.heap.size w w0 := by rw [hw0]; exact ((Below.refl _ _).alloc (Nat.le_refl _) _).alloc (by simp) _
 have kA : Blk w0 w.heap.size 37 #[.int .i64 p, .int .i64 d, .slice a xs.length c, .slice ra xss.length rc] := by rw [hw0]; exact (Blk.new _ _ _ rfl).alloc _
 have kB : Blk w0 (w.heap.size + 1) 37 #[.int .i64 p', .int .i64 d', .slice b ys.length c', .slice rb yss.length rc'] := by rw [hw0]; exact Blk.new _ _ _ (by simp)
 have s0 : w0.heap.size = w.heap.size + 1 + 1 := by rw [hw0]; simp
 have HW := Lib.hid hw0
 clear hw0
 go_enter Try.func37, Try.ntmps37
 go_wp2_with fail
 rw [← HW.out]
 refine (implSameField_any p d p' d' a b c c' xs ys w0 (hx.below hb0) (hy.below hb0)).mono ?_
 rintro e w1 ⟨rfl, b1⟩
 have kA1 := kA.below b1 (by omega)
 have kB1 := kB.below b1 (by omega)
 have hb1 := hb0.trans (b1.mono (by omega))
 have f0 : w1.cell? ⟨w.heap.size, 3, none⟩ = some (.slice ra xss.length rc) := kA1.cell 3
 have f1 : w1.cell? ⟨w.heap.size + 1, 3, none⟩ = some (.slice rb yss.length rc') := kB1.cell 3
 generalize hr : sameF p d xs p' d' ys = r
 have HR := Lib.hid hr
 clear hr HW
 cases r
 · go_wp2
   go_ret
   exact ⟨ret_bool (by unfold sameC; rw [HR.out]; rfl), hb1⟩
 · go_wp2_with fail
   refine (areSame_any ra rb rc rc' xss yss w1 (hxs.below hb1) (hys.below hb1)).mono ?_
   rintro e w2 ⟨rfl, q2⟩
   have hb2 := hb1.trans (q2.below _)
   generalize hr : decide (xss = yss) = r
   have HR2 := Lib.hid hr
   clear hr
   cases r
   · go_wp2
     go_ret
     exact ⟨ret_bool (by unfold sameC; rw [HR.out, HR2.out]; rfl), hb2⟩
   · go_wp2
     go_ret
     exact ⟨ret_bool (by unfold sameC; rw [HR.out, HR2.out]; rfl), hb2⟩
end Go.Proofs.Ytgmgpcaahanmiaa
namespace Go.Proofs.Ytgmgpcaahanmiaa
open Go.RowKit
def Kp (w w' : World) (lo hi : Nat) : Prop := w.heap.size ≤ w'.heap.size ∧ ∀ g, lo ≤ g → g < hi → w'.heap[g]? = w.heap[g]?
def Mk (w w' : World) (lo hi : Nat) : Prop := Below lo w w' ∧ ∀ g, hi ≤ g → g < w.heap.size → w'.heap[g]? = w.heap[g]?
section
variable {a b c w w' : World} {lo hi lo' hi' : Nat}
theorem Kp.refl (w : World) (lo hi : Nat) : Kp w w lo hi := ⟨Nat.le_refl _, fun _ _ _ => rfl⟩
theorem Kp.below (h : Below w.heap.size w w') (s : hi ≤ w.heap.size) : Kp w w' lo hi := ⟨h.size, fun g _ hg => h.block g (by omega)⟩
theorem Kp.trans (h : Kp a b lo hi) (k : Kp b c lo hi) : Kp a c lo hi := ⟨Nat.le_trans h.1 k.1, fun g h1 h2 => (k.2 g h1 h2).trans (h.2 g h1 h2)⟩
theorem Kp.sub (h : Kp a b lo hi) (h1 : lo ≤ lo') (h2 : hi' ≤ hi) : Kp a b lo' hi' := ⟨h.1, fun g a b => h.2 g (by omega) (by omega)⟩
theorem Mk.kp (h : Mk w w' lo hi) (d : hi' ≤ lo ∨ hi ≤ lo') (s : hi' ≤ w.heap.size) : Kp w w' lo' hi' :=
 ⟨h.1.size, fun g h1 h2 => by
  rcases d with d | d
  · exact h.1.block g (by omega)
  · exact h.2 g (by omega) (by omega)⟩
theorem Mk.refl (w : World) (lo hi : Nat) : Mk w w lo hi := ⟨Below.refl _ _, fun _ _ _ => rfl⟩
theorem Mk.trans (h : Mk a b lo hi) (k : Mk b c lo hi) : Mk a c lo hi := ⟨h.1.trans k.1, fun g h1 h2 => (k.2 g h1 (by have := h.1.size; omega)).trans (h.2 g h1 h2)⟩
theorem Mk.size (h : Mk w w' lo hi) : w.heap.size ≤ w'.heap.size := h.1.size
theorem Mk.grown {v : Value} (hg : w.grownBy w' v.ownBlock) (hi_ : In v lo hi) (hlo : lo ≤ w.heap.size) : Mk w w' lo hi :=
 ⟨Below.wrote hg hi_ hlo (Nat.le_refl _), fun g h1 h2 => hg.block g h2 (fun e => by have := hi_ g e.symm; omega)⟩
theorem Mk.alloc (h : Below w.heap.size w w') (h2 : lo ≤ w.heap.size) : Mk w w' lo hi := ⟨h.mono h2, fun g _ hg => h.block g hg⟩
end
theorem cell_block {w w' : World} {g : Nat} (h : w'.heap[g]? = w.heap[g]?) (i : Nat) : w'.cell? ⟨g, i, none⟩ = w.cell? ⟨g, i, none⟩ := by
 simp only [World.cell?]
 rw [h]
theorem Rd.kp {w w' : World} {a : Option Addr} {xs : List Int} (h : Rd w a xs) (k : Kp w w' 0 w.heap.size) : Rd w' a xs :=
 ⟨h.1, fun h0 => by
  obtain ⟨b, off, rfl, hb, hc⟩ := h.at_ h0
  exact ⟨b, off, rfl, fun i hi => (cell_block (k.2 b (Nat.zero_le _) hb) _).trans (hc i hi)⟩⟩
theorem RdS.kp {w w' : World} {a : Option Addr} {xss : List (List Int)} (h : RdS w a xss) (k : Kp w w' 0 w.heap.size) : RdS w' a xss :=
 ⟨h.1, fun h0 => by
  obtain ⟨b, off, rfl, hb, hc⟩ := h.at_ h0
  refine ⟨b, off, rfl, fun i hi => ?_⟩
  obtain ⟨ai, ci, h1, h2⟩ := hc i hi
  exact ⟨ai, ci, (cell_block (k.2 b (Nat.zero_le _) hb) _).trans h1, h2.kp k⟩⟩
theorem Blk.kp {w w' : World} {g : Nat} {t : TypeId} {cs : Array Value} (h : Blk w g t cs) (k : Kp w w' g (g + 1)) : Blk w' g t cs := (k.2 g (Nat.le_refl _) (by omega)).trans h
theorem ownsRow_kp {w w' : World} {B hi e size n : Nat} {v : Value} {vs : List Value} (h : w.ownsRow B e size v n vs) (hv : In v B hi) (k : Kp w w' B hi) : w'.ownsRow B e size v n vs := by
 obtain ⟨h1, h2⟩ := h
 refine ⟨h1, ?_⟩
 rcases h2 with h2 | ⟨g, cap, cur, rfl, hB, hg, r⟩
 · exact .inl h2
 · have := hv g rfl
   exact .inr ⟨g, cap, cur, rfl, hB, (k.2 g this.1 this.2).trans hg, r⟩
def OwnH (w : World) (B hi : Nat) (v : Value) (xs : List Int) : Prop := Own w B v xs ∧ In v B hi
theorem Own.toH {w : World} {B : Nat} {v : Value} {xs : List Int} (h : Own w B v xs) : OwnH w B w.heap.size v xs := ⟨h, h.lt⟩
theorem OwnH.kp {w w' : World} {B hi : Nat} {v : Value} {xs : List Int} (h : OwnH w B hi v xs) (k : Kp w w' B hi) : OwnH w' B hi v xs := ⟨⟨h.1.1, ownsRow_kp h.1.2 h.2 k⟩, h.2⟩
theorem OwnH.rd {w : World} {B hi : Nat} {a : Option Addr} {n c : Nat} {xs : List Int} (h : OwnH w B hi (.slice a n c) xs) : Rd w a xs := h.1.rd
def Bnd (B hi : Nat) (vs : List Value) : Prop := ∀ (i : Nat) (x : Value), vs[i]? = some x → In x B hi
def OwnSH (w : World) (B hi : Nat) (v : Value) (xss : List (List Int)) : Prop :=
 xss.length ≤ 1073741824 ∧ ∃ vs : List Value, w.ownsRow B 22 1 v xss.length vs ∧ Inner w B vs xss ∧ In v B hi ∧ Bnd B hi vs
theorem OwnS.toH {w : World} {B : Nat} {v : Value} {xss : List (List Int)} (h : OwnS w B v xss) : OwnSH w B w.heap.size v xss := by
 obtain ⟨hl, vs, hr, hi⟩ := h
 exact ⟨hl, vs, hr, hi, hr.lt, fun i x hx => (hi.2.1 i x hx).lt⟩
theorem OwnSH.own {w : World} {B hi : Nat} {v : Value} {xss : List (List Int)} (h : OwnSH w B hi v xss) : OwnS w B v xss := by
 obtain ⟨hl, vs, hr, hi, _⟩ := h
 exact ⟨hl, vs, hr, hi⟩
theorem OwnSH.kp {w w' : World} {B hi : Nat} {v : Value} {xss : List (List Int)} (h : OwnSH w B hi v xss) (k : Kp w w' B hi) : OwnSH w' B hi v xss := by
 obtain ⟨hl, vs, hr, hi, hv, hb⟩ := h
 exact ⟨hl, vs, ownsRow_kp hr hv k, ⟨hi.1, fun i x hx => (OwnH.kp (w := w) ⟨hi.2.1 i x hx, hb i x hx⟩ k).1, hi.2.2⟩, hv, hb⟩
theorem OwnSH.rd {w : World} {B hi : Nat} {a : Option Addr} {n c : Nat} {xss : List (List Int)} (h : OwnSH w B hi (.slice a n c) xss) : RdS w a xss := h.own.rd
def OwnCH (w : World) (B hi : Nat) (v u : Value) (xs : List Int) (xss : List (List Int)) : Prop := ∃ M, B ≤ M ∧ M ≤ hi ∧ OwnH w B M v xs ∧ OwnSH w M hi u xss
theorem OwnC.toH {w : World} {B : Nat} {v u : Value} {xs : List Int} {xss : List (List Int)} (h : OwnC w B v u xs xss) (hM : B ≤ w.heap.size) : OwnCH w B w.heap.size v u xs xss := by
 obtain ⟨M, h1, h2, h3, h4⟩ := h
 by_cases hm : M ≤ w.heap.size
 · exact ⟨M, h1, hm, ⟨h2, h3⟩, h4.toH⟩
 · refine ⟨w.heap.size, hM, Nat.le_refl _, h2.toH, ?_⟩
   obtain ⟨hl, vs, hr, hi⟩ := h4
   have no : ∀ x k, In x M w.heap.size → Value.ownBlock x = some k → False := fun x k h e => by have := h k e; omega
   obtain ⟨r1, r2⟩ := hr
   refine ⟨hl, vs, ⟨r1, ?_⟩, hi.mono (by omega), fun k e => (no _ k (World.ownsRow.lt ⟨r1, r2⟩) e).elim, fun i x hx k e => (no _ k (hi.2.1 i x hx).lt e).elim⟩
   rcases r2 with r2 | ⟨g, cap, cur, e, hb, hg, r⟩
   · exact .inl r2
   · have := (Array.getElem?_eq_some_iff.1 hg).1
     omega
theorem OwnCH.kp {w w' : World} {B hi : Nat} {v u : Value} {xs : List Int} {xss : List (List Int)} (h : OwnCH w B hi v u xs xss) (k : Kp w w' B hi) : OwnCH w' B hi v u xs xss := by
 obtain ⟨M, h1, h2, h3, h4⟩ := h
 exact ⟨M, h1, h2, h3.kp (k.sub (Nat.le_refl _) h2), h4.kp (k.sub h1 (Nat.le_refl _))⟩
theorem OwnCH.rd {w : World} {B hi : Nat} {a b : Option Addr} {n c m d : Nat} {xs : List Int} {xss : List (List Int)} (h : OwnCH w B hi (.slice a n c) (.slice b m d) xs xss) : Rd w a xs := by
 obtain ⟨M, h1, h2, h3, h4⟩ := h
 exact h3.rd
theorem sum_le_of {ls : List Nat} (h : ∀ n ∈ ls, n ≤ 1073741824) : ls.sum ≤ ls.length * 1073741824 := by
 induction ls with
 | nil => simp
 | cons n ls ih =>
  have h1 := ih (fun m hm => h m (List.mem_cons_of_mem _ hm))
  have h2 := h n List.mem_cons_self
  rw [List.sum_cons, List.length_cons, Nat.add_mul]
  omega
theorem OwnSH.sum {w : World} {B hi : Nat} {v : Value} {xss : List (List Int)} (h : OwnSH w B hi v xss) : (xss.map List.length).sum ≤ 1152921504606846976 := by
 obtain ⟨hl, vs, hr, hin, _⟩ := h
 have h1 : ∀ n ∈ xss.map List.length, n ≤ 1073741824 := by
  intro n hn
  obtain ⟨xs, hx, rfl⟩ := List.mem_map.1 hn
  obtain ⟨i, hi, rfl⟩ := List.getElem_of_mem hx
  have hil : i < vs.length := by rw [hin.1]; exact hi
  have := (hin.2.1 i _ (List.getElem?_eq_getElem hil)).1
  rwa [nthL_lt hi] at this
 have h2 := sum_le_of h1
 rw [List.length_map] at h2
 have h3 : xss.length * 1073741824 ≤ 1073741824 * 1073741824 := Nat.mul_le_mul_right _ hl
 omega
theorem OwnCH.len {w : World} {B hi : Nat} {v u : Value} {xs : List Int} {xss : List (List Int)} (h : OwnCH w B hi v u xs xss) : xs.length ≤ 1073741824 := by
 obtain ⟨M, h1, h2, h3, h4⟩ := h
 exact h3.1.1
theorem OwnCH.sum {w : World} {B hi : Nat} {v u : Value} {xs : List Int} {xss : List (List Int)} (h : OwnCH w B hi v u xs xss) : (xss.map List.length).sum ≤ 1152921504606846976 := by
 obtain ⟨M, h1, h2, h3, h4⟩ := h
 exact h4.sum
theorem OwnSH.row {w : World} {B hi : Nat} {v : Value} {yss : List (List Int)} (h : OwnSH w B hi v yss) {i : Nat} (hi' : i < yss.length) :
    ∃ a c, OwnH w B hi (.slice a (nthL yss i).length c) (nthL yss i) ∧
     (∀ b off m d, v = .slice (some ⟨b, off, none⟩) m d → w.cell? ⟨b, off + i, none⟩ = some (.slice a (nthL yss i).length c)) ∧
     ∀ w' ys, OwnH w' B hi (.slice a (nthL yss i).length c) ys → ys.length = (nthL yss i).length → w.grownBy w' (Value.ownBlock (.slice a (nthL yss i).length c)) → OwnSH w' B hi v (yss.set i ys) := by
 obtain ⟨hl, vs, hr, hin, hv, hb⟩ := h
 have hil : i < vs.length := by rw [hin.1]; exact hi'
 have hgi := List.getElem?_eq_getElem hil
 have ho := hin.2.1 i _ hgi
 obtain ⟨a, c, e, _, _⟩ := ho.form
 rw [e] at ho
 have hIn := hb i _ hgi
 rw [e] at hIn hgi
 have hne : ∀ k, Value.ownBlock (.slice a (nthL yss i).length c) = some k → v.ownBlock ≠ some k := Own.notSliceBlock hr ho
 refine ⟨a, c, ⟨ho, hIn⟩, ?_, ?_⟩
 · intro b off m d hvv
   have hr2 := hr
   rcases hr.2 with ⟨rfl, _⟩ | ⟨g, cap, cur, rfl, _⟩
   · injection hvv with h0 _ _; cases h0
   · injection hvv with h0 _ _
     injection h0 with h0
     injection h0 with h1 h2
     subst h1; subst h2
     have := hr2.cellAt i (by omega)
     rw [Nat.zero_add, this, hgi]
 intro w' ys ho' hyl hg
 refine ⟨by simpa using hl, vs, ?_, ⟨by simpa using hin.1, fun j x hx => ?_, hin.2.2⟩, hv, hb⟩
 · rw [List.length_set]
   refine hr.kept hg ?_
   rcases hx : v.ownBlock with _ | k
   · exact .inl rfl
   · exact .inr fun e2 => hne k e2.symm hx
 · by_cases hj : j = i
   · subst hj
     rw [hgi] at hx
     injection hx with hx
     subst hx
     have : nthL (yss.set j ys) j = ys := by simp [nthL, hi']
     rw [this]
     exact ho'.1
   · have : nthL (yss.set i ys) j = nthL yss j := by simp [nthL, List.getD_eq_getElem?_getD, List.getElem?_set_ne (Ne.symm hj)]
     rw [this]
     refine (hin.2.1 j x hx).grow hg ?_
     rcases hxb : x.ownBlock with _ | k
     · exact .inl rfl
     · exact .inr fun e2 => hin.2.2 i j _ _ k (Ne.symm hj) hgi hx e2.symm hxb
end Go.Proofs.Ytgmgpcaahanmiaa
namespace Go.Proofs.Ytgmgpcaahanmiaa
open Go.RowKit
theorem Kp.alloc {a b : World} {lo hi : Nat} (h : Kp a b lo hi) (s : hi ≤ b.heap.size) (o : Obj) : Kp a (b.alloc o) lo hi := h.trans (Kp.below ((Below.refl _ _).alloc (Nat.le_refl _) o) s)
theorem Kp.drew {a b : World} {lo hi : Nat} (h : Kp a b lo hi) : Kp a b.drew lo hi := h
theorem Kp.grown {a b c : World} {lo hi : Nat} {row : Option Nat} (h : Kp a b lo hi) (hg : b.grownBy c row) (hne : ∀ k, row = some k → k < lo ∨ hi ≤ k) (s : hi ≤ b.heap.size) : Kp a c lo hi :=
 h.trans ⟨hg.size, fun g h1 h2 => hg.block g (by omega) (fun e => by have := hne g e.symm; omega)⟩
theorem Kp.setCell {a b : World} {lo hi : Nat} (h : Kp a b lo hi) {p : Addr} (hp : p.block < lo ∨ hi ≤ p.block) (v : Value) : Kp a (b.setCell p v) lo hi :=
 ⟨by have := h.1; simpa using this, fun g h1 h2 => (Below.heap_setCell b p v g (by omega)).trans (h.2 g h1 h2)⟩
section
variable {w : World} {B hi : Nat} {v r : Value} {xss : List (List Int)} {xs : List Int}
theorem run_append_row (hown : OwnSH w B hi v xss) (g1 : Nat) (hc : w.cell? ⟨g1, 0, none⟩ = some r) (hr : Own w hi r xs) (hB : B ≤ hi) (hhi : hi ≤ w.heap.size) (hl : xss.length + 1 ≤ 1073741824) (ty : TypeId) :
    ∃ v' w', (Builtin.append_ #[35, 35] ty #[v, .slice (some ⟨g1, 0, none⟩) 1 1]).run Try.prog w = .ok v' w' ∧ OwnS w' B v' (xss ++ [xs]) ∧ w.grownBy w' v.ownBlock ∧ (v'.ownBlock = v.ownBlock ∨ v'.ownBlock = some w.heap.size) := by
 obtain ⟨i0, hi0, hz0, hz1, hz2⟩ := info_parts Try.info_row
 obtain ⟨hxl, vs, hrow, hin, hv, hb⟩ := hown
 obtain ⟨ar, cr, er, _, _⟩ := hr.form
 obtain ⟨v', w', h1, h2, h3, _, h5⟩ := run_append_own_at (P := Try.prog) w B 35 ty 22 i0 (.slice none 0 0) 1 24 Try.underlying35 hi0 hz0 hz1 hz2 rfl (by omega) v xss.length vs hrow ⟨g1, 0, none⟩ 1 1 [r] rfl
  (fun j u hu => by
   have hj := (List.getElem?_eq_some_iff.1 hu).1
   simp at hj
   subst hj
   injection hu with hu
   subst hu
   rw [Addr.add_lit]; exact hc)
  (by intro u hu; rw [List.mem_singleton.1 hu, er]; rfl) (by unfold maxLen; omega) (by omega) (by omega)
 refine ⟨v', w', h1, ⟨by simpa using hl, vs ++ [r], by simpa using h2, by simp [hin.1], fun i x hx => ?_, fun i j x y k hij hx hy hk => ?_⟩, h3, h5⟩
 · have grow : ∀ (x : Value) (B' : Nat) (zs : List Int), Own w B' x zs → Own w' B' x zs := fun x B' zs ho => ho.grow h3 (by
     rcases hxb : x.ownBlock with _ | k
     · exact .inl rfl
     · exact .inr fun e => Own.notSliceBlock hrow ho k hxb e.symm)
   rcases Nat.lt_or_ge i vs.length with hi' | hi'
   · rw [List.getElem?_append_left hi'] at hx
     have e : nthL (xss ++ [xs]) i = nthL xss i := by rw [nthL, nthL, List.getD_eq_getElem?_getD, List.getElem?_append_left (by have := hin.1; omega), ← List.getD_eq_getElem?_getD]
     rw [e]
     exact grow _ _ _ (hin.2.1 i x hx)
   · have h2 := (List.getElem?_eq_some_iff.1 hx).1
     simp at h2
     obtain rfl : i = vs.length := by omega
     simp at hx
     subst hx
     have e : nthL (xss ++ [xs]) vs.length = xs := by simp [nthL, hin.1]
     rw [e]
     exact (grow _ _ _ hr).mono hB
 · have old : ∀ (i : Nat) (y : Value) (k : Nat), i < vs.length → (vs ++ [r])[i]? = some y → y.ownBlock = some k → k < hi := fun i y k hi' hy hk => by
     rw [List.getElem?_append_left hi'] at hy
     exact (hb i y hy k hk).2
   have new : ∀ (i : Nat) (y : Value) (k : Nat), ¬ i < vs.length → (vs ++ [r])[i]? = some y → i = vs.length ∧ (y.ownBlock = some k → hi ≤ k) := fun i y k hi' hy => by
    have hi2 := (List.getElem?_eq_some_iff.1 hy).1
    simp at hi2
    obtain rfl : i = vs.length := by omega
    simp at hy
    subst hy
    exact ⟨rfl, fun hk => (hr.lt k hk).1⟩
   intro hyk
   by_cases h1 : i < vs.length <;> by_cases h2 : j < vs.length
   · rw [List.getElem?_append_left h1] at hx
     rw [List.getElem?_append_left h2] at hy
     exact hin.2.2 i j x y k hij hx hy hk hyk
   · have a1 := old i x k h1 hx hk
     have a2 := (new j y k h2 hy).2 hyk
     omega
   · have a1 := old j y k h2 hy hyk
     have a2 := (new i x k h1 hx).2 hk
     omega
   · have a1 := (new i x k h1 hx).1
     have a2 := (new j y k h2 hy).1
     omega
theorem wp_append_row {o : Oper} {a : Act} {K : Act → World → Prop} {Q : Exit → Act → World → Prop} (s x : Operand)
    (ho : o.op = .call { callee := .builtin .append, args := #[s, x], argTypes := #[35, 35] })
    (hs : a.eval s = v) (hown : OwnSH w B hi v xss) (g1 : Nat) (hx : a.eval x = .slice (some ⟨g1, 0, none⟩) 1 1) (hc : w.cell? ⟨g1, 0, none⟩ = some r) (hr : Own w hi r xs) (hB : B ≤ hi) (hhi : hi ≤ w.heap.size) (hl : xss.length + 1 ≤ 1073741824)
    (h : ∀ v' w', OwnS w' B v' (xss ++ [xs]) → w.grownBy w' v.ownBlock → (v'.ownBlock = v.ownBlock ∨ v'.ownBlock = some w.heap.size) → K (a.put o.dst v') w') : Oper.wp Try.prog o a w K Q := by
 obtain ⟨v', w', hrun, h2, h3, h4⟩ := run_append_row hown g1 hc hr hB hhi hl o.type
 unfold Oper.wp execOp
 simp only [ho, resolve, invoke, builtin, Sem.run_bind, Sem.run_pure, Result.andThen_ok, List.map_toArray, List.map_cons, List.map_nil, hs, hx, hrun]
 exact h v' w' h2 h3 h4
theorem wpList_append_row {ops : Array Oper} {rest : List Oper} {o : Oper} {a : Act} {Q : Exit → Act → World → Prop} (hgd : o.guard = none) (s x : Operand)
    (ho : o.op = .call { callee := .builtin .append, args := #[s, x], argTypes := #[35, 35] })
    (hs : a.eval s = v) (hown : OwnSH w B hi v xss) (g1 : Nat) (hx : a.eval x = .slice (some ⟨g1, 0, none⟩) 1 1) (hc : w.cell? ⟨g1, 0, none⟩ = some r) (hr : Own w hi r xs) (hB : B ≤ hi) (hhi : hi ≤ w.heap.size) (hl : xss.length + 1 ≤ 1073741824)
    (h : ∀ v' w', OwnS w' B v' (xss ++ [xs]) → w.grownBy w' v.ownBlock → (v'.ownBlock = v.ownBlock ∨ v'.ownBlock = some w.heap.size) → wpList Try.prog ops Q rest (a.put o.dst v') w') :
    wpList Try.prog ops Q (o :: rest) a w :=
 wpList_plain hgd fun _ hK => wp_append_row s x ho hs hown g1 hx hc hr hB hhi hl fun v' w' h2 h3 h4 => hK _ _ (h v' w' h2 h3 h4)
theorem step_append_row {ops : Array Oper} {o : Oper} {a : Act} {K : Act → World → Prop} {Q : Exit → Act → World → Prop} {E : Prop} (hgd : o.guard = none) (s x : Operand)
    (ho : o.op = .call { callee := .builtin .append, args := #[s, x], argTypes := #[35, 35] })
    (hs : a.eval s = v) (hown : OwnSH w B hi v xss) (g1 : Nat) (hx : a.eval x = .slice (some ⟨g1, 0, none⟩) 1 1) (hc : w.cell? ⟨g1, 0, none⟩ = some r) (hr : Own w hi r xs) (hB : B ≤ hi) (hhi : hi ≤ w.heap.size) (hl : xss.length + 1 ≤ 1073741824)
    (h : ∀ v' w', OwnS w' B v' (xss ++ [xs]) → w.grownBy w' v.ownBlock → (v'.ownBlock = v.ownBlock ∨ v'.ownBlock = some w.heap.size) → K (a.put o.dst v') w') :
    if Region.wanted o (yielded ops a.tmps) = true then Oper.wp Try.prog o a w K Q else E := by
 have hw : Region.wanted o (yielded ops a.tmps) = true := by simp [Region.wanted, hgd]
 rw [if_pos hw]
 exact wp_append_row s x ho hs hown g1 hx hc hr hB hhi hl h
end
end Go.Proofs.Ytgmgpcaahanmiaa
namespace Go.Proofs.Ytgmgpcaahanmiaa
open Go.RowKit
section
variable {w : World} {B hi g n c : Nat} {v : Value} {yss : List (List Int)}
theorem OwnS.row (h : OwnS w B v yss) {i : Nat} (hi : i < yss.length) :
    ∃ a c, Own w B (.slice a (nthL yss i).length c) (nthL yss i) ∧
     (∀ b off m d, v = .slice (some ⟨b, off, none⟩) m d → w.cell? ⟨b, off + i, none⟩ = some (.slice a (nthL yss i).length c)) ∧
     ∀ w' ys, Own w' B (.slice a (nthL yss i).length c) ys → ys.length = (nthL yss i).length → w.grownBy w' (Value.ownBlock (.slice a (nthL yss i).length c)) → OwnS w' B v (yss.set i ys) := by
 obtain ⟨a, c, h1, h2, h3⟩ := h.toH.row hi
 exact ⟨a, c, h1.1, h2, fun w' ys ho hl hg => (h3 w' ys ⟨ho, h1.2⟩ hl hg).own⟩
theorem OwnS.at_ (h : OwnS w B v yss) (h0 : 0 < yss.length) : ∃ g c, v = .slice (some ⟨g, 0, none⟩) yss.length c ∧ B ≤ g ∧ g < w.heap.size ∧ yss.length ≤ c ∧ c ≤ 9223372036854775807 := by
 obtain ⟨hl, vs, hr, hin⟩ := h
 rcases hr.2 with ⟨_, h1⟩ | ⟨g, cap, cur, rfl, hb, hg, hn, hm, hs, ht⟩
 · omega
 · unfold maxLen at hm
   exact ⟨g, cap, rfl, hb, (Array.getElem?_eq_some_iff.1 hg).1, hn, by omega⟩
theorem OwnS.frozen (h : OwnS w B (.slice (some ⟨g, 0, none⟩) n c) yss) (j : Nat) : w.frozen? ⟨g, j, none⟩ = false := by
 have e := h.len
 obtain ⟨hl, vs, hr, hin⟩ := h
 subst e
 exact hr.frozenAt j
theorem row_grow {w' : World} {m : Nat} {vs : List Value} {x : Value} {xs : List Int} (hr : w.ownsRow B 22 1 v m vs) (hg : w.grownBy w' v.ownBlock) {B2 : Nat} (ho : Own w B2 x xs) : Own w' B2 x xs :=
 ho.grow hg (by
  rcases hxb : x.ownBlock with _ | k
  · exact .inl rfl
  · exact .inr fun e => Own.notSliceBlock hr ho k hxb e.symm)
theorem nthL_set_same {xss : List (List Int)} {i : Nat} (h : i < xss.length) (v : List Int) : nthL (xss.set i v) i = v := by simp [nthL, h]
theorem nthL_set_ne {xss : List (List Int)} {i j : Nat} (h : i ≠ j) (v : List Int) : nthL (xss.set i v) j = nthL xss j := by
 simp [nthL, List.getD_eq_getElem?_getD, List.getElem?_set_ne h]
theorem OwnSH.put (h : OwnSH w B hi (.slice (some ⟨g, 0, none⟩) n c) yss) {r : Value} {ys : List Int} (hr : Own w hi r ys) (hB : B ≤ hi) {j : Nat} (hj : j < yss.length) :
    OwnS (w.setCell ⟨g, j, none⟩ r) B (.slice (some ⟨g, 0, none⟩) n c) (yss.set j ys) ∧ w.grownBy (w.setCell ⟨g, j, none⟩ r) (some g) := by
 have e := h.own.len
 subst e
 obtain ⟨hl, vs, ho, hin, hv, hb⟩ := h
 obtain ⟨h1, h2⟩ := ho.stored j r
 have row : ∀ (x : Value) (B2 : Nat) (xs : List Int), Own w B2 x xs → Own (w.setCell ⟨g, j, none⟩ r) B2 x xs := fun x B2 xs hx => row_grow ho h2 hx
 refine ⟨⟨by simpa using hl, vs.set j r, by rw [List.length_set]; exact h1, by simp [hin.1], fun i x hx => ?_, fun i k x y b hik hx hy hxb hyb => ?_⟩, h2⟩
 · by_cases e : i = j
   · subst e
     rw [List.getElem?_set_self (by rw [hin.1]; exact hj)] at hx
     injection hx with hx
     subst hx
     rw [nthL_set_same hj]
     exact (row _ _ _ hr).mono hB
   · rw [List.getElem?_set_ne (Ne.symm e)] at hx
     rw [nthL_set_ne (Ne.symm e)]
     exact row _ _ _ (hin.2.1 i x hx)
 · have cas : ∀ (q : Nat) (z : Value), (vs.set j r)[q]? = some z → (q = j ∧ z = r) ∨ (q ≠ j ∧ vs[q]? = some z) := fun q z hz => by
     by_cases e : q = j
     · subst e
       rw [List.getElem?_set_self (by rw [hin.1]; exact hj)] at hz
       injection hz with hz
       exact .inl ⟨rfl, hz.symm⟩
     · rw [List.getElem?_set_ne (Ne.symm e)] at hz
       exact .inr ⟨e, hz⟩
   rcases cas i x hx with ⟨e1, e2⟩ | ⟨e1, e2⟩ <;> rcases cas k y hy with ⟨f1, f2⟩ | ⟨f1, f2⟩
   · omega
   · subst e2
     have a1 := (hr.lt b hxb).1
     have a2 := (hb k y f2 b hyb).2
     omega
   · subst f2
     have a1 := (hr.lt b hyb).1
     have a2 := (hb i x e2 b hxb).2
     omega
   · exact hin.2.2 i k x y b hik e2 f2 hxb hyb
theorem OwnS.swap (h : OwnS w B (.slice (some ⟨g, 0, none⟩) n c) yss) {i j : Nat} (hi : i < yss.length) (hj : j < yss.length) (hij : i ≠ j) {x y : Value} (hx : w.cell? ⟨g, i, none⟩ = some x) (hy : w.cell? ⟨g, j, none⟩ = some y) :
    OwnS ((w.setCell ⟨g, i, none⟩ y).setCell ⟨g, j, none⟩ x) B (.slice (some ⟨g, 0, none⟩) n c) ((yss.set i (nthL yss j)).set j (nthL yss i)) ∧ w.grownBy ((w.setCell ⟨g, i, none⟩ y).setCell ⟨g, j, none⟩ x) (some g) := by
 have e := h.len
 subst e
 obtain ⟨hl, vs, ho, hin⟩ := h
 have vx : vs[i]? = some x := by rw [← ho.cellAt i (by omega)]; exact hx
 have vy : vs[j]? = some y := by rw [← ho.cellAt j (by omega)]; exact hy
 obtain ⟨h1, h2⟩ := ho.stored i y
 obtain ⟨h3, h4⟩ := h1.stored j x
 have row : ∀ (z : Value) (B2 : Nat) (xs : List Int), Own w B2 z xs → Own ((w.setCell ⟨g, i, none⟩ y).setCell ⟨g, j, none⟩ x) B2 z xs := fun z B2 xs hz => row_grow h1 h4 (row_grow ho h2 hz)
 have hil : i < vs.length := by rw [hin.1]; exact hi
 have hjl : j < vs.length := by rw [hin.1]; exact hj
 -- which row stands where
 have cas : ∀ (q : Nat) (z : Value), ((vs.set i y).set j x)[q]? = some z → ∃ q', vs[q']? = some z ∧ ((q = j ∧ q' = i) ∨ (q = i ∧ q ≠ j ∧ q' = j) ∨ (q ≠ i ∧ q ≠ j ∧ q' = q)) := fun q z hz => by
  by_cases e : q = j
  · subst e
    rw [List.getElem?_set_self (by rw [List.length_set]; exact hjl)] at hz
    injection hz with hz
    subst hz
    exact ⟨i, vx, .inl ⟨rfl, rfl⟩⟩
  · rw [List.getElem?_set_ne (Ne.symm e)] at hz
    by_cases e2 : q = i
    · subst e2
      rw [List.getElem?_set_self hil] at hz
      injection hz with hz
      subst hz
      exact ⟨j, vy, .inr (.inl ⟨rfl, e, rfl⟩)⟩
    · rw [List.getElem?_set_ne (Ne.symm e2)] at hz
      exact ⟨q, hz, .inr (.inr ⟨e2, e, rfl⟩)⟩
 refine ⟨⟨by simpa using hl, (vs.set i y).set j x, by simpa using h3, by simp [hin.1], fun q z hz => ?_, fun q k z u b hqk hz hu hzb hub => ?_⟩, grown_trans_row h2 h4⟩
 · obtain ⟨q', hq, hc⟩ := cas q z hz
   have o := row _ _ _ (hin.2.1 q' z hq)
   rcases hc with ⟨rfl, rfl⟩ | ⟨rfl, hne, rfl⟩ | ⟨h1, h2, rfl⟩
   · rw [nthL_set_same (by rw [List.length_set]; exact hj)]; exact o
   · rw [nthL_set_ne (Ne.symm hne), nthL_set_same hi]; exact o
   · rw [nthL_set_ne (Ne.symm h2), nthL_set_ne (Ne.symm h1)]; exact o
 · obtain ⟨q', hq, hc⟩ := cas q z hz
   obtain ⟨k', hk, hd⟩ := cas k u hu
   exact hin.2.2 q' k' z u b (by omega) hq hk hzb hub
theorem OwnS.inn (h : OwnS w B v yss) : In v B w.heap.size := by
 obtain ⟨_, vs, hr, _⟩ := h
 exact hr.lt
theorem Below.stepS {C : Nat} {a w' : World} (h : Below C a w) (hg : w.grownBy w' v.ownBlock) (ho : OwnS w B v yss) (hBo : C ≤ B) (hB : C ≤ w.heap.size) : Below C a w' :=
 h.grown hg hB (fun k hk => by have := (ho.inn k hk).1; omega)
theorem OwnS.take (h : OwnS w B (.slice (some ⟨g, 0, none⟩) n c) yss) {m : Nat} (hm : m ≤ n) : OwnS w B (.slice (some ⟨g, 0, none⟩) m c) (yss.take m) := by
 have e := h.len
 subst e
 obtain ⟨hl, vs, ⟨h1, h3⟩, hin⟩ := h
 have hml : (yss.take m).length = m := by rw [List.length_take]; omega
 refine ⟨by rw [hml]; omega, vs.take m, ?_, by rw [List.length_take, hml, hin.1]; omega, fun i x hx => ?_, fun i j x y b hij hx hy hxb => ?_⟩
 · rw [hml]
   refine ⟨by rw [List.length_take, hin.1]; omega, .inr ?_⟩
   rcases h3 with ⟨e, _⟩ | ⟨g', cap, cur, e, hb, hg, hn, hcm, hs, ht⟩
   · cases e
   · injection e with e1 e2 e3
     injection e1 with e1
     injection e1 with e1
     subst e1
     subst e3
     refine ⟨g, c, cur, rfl, hb, hg, by omega, hcm, hs, ?_⟩
     rw [← ht, List.take_take]
     congr 1
     omega
 · have hi : i < m := by
     have := (List.getElem?_eq_some_iff.1 hx).1
     rw [List.length_take] at this
     omega
   rw [List.getElem?_take_of_lt hi] at hx
   rw [nthL_take hi]
   exact hin.2.1 i x hx
 · have lt : ∀ (q : Nat) (z : Value), (vs.take m)[q]? = some z → vs[q]? = some z := fun q z hz => by
     have hq : q < m := by
      have := (List.getElem?_eq_some_iff.1 hz).1
      rw [List.length_take] at this
      omega
     rwa [List.getElem?_take_of_lt hq] at hz
   exact hin.2.2 i j x y b hij (lt i x hx) (lt j y hy) hxb
end
end Go.Proofs.Ytgmgpcaahanmiaa
namespace Go.Proofs.Ytgmgpcaahanmiaa
open Go.RowKit
theorem OwnSH.belw {w w' : World} {B hi : Nat} {v : Value} {xss : List (List Int)} (h : OwnSH w B hi v xss) (hb : Below w.heap.size w w') (hh : hi ≤ w.heap.size) : OwnSH w' B hi v xss := h.kp (Kp.below hb hh)
theorem copyLists_any (a : Option Addr) (c : Nat) (xss : List (List Int)) (w : World) (hx : RdS w a xss) :
    Calls Try.prog 138 #[.slice a xss.length c] w fun e w' => ∃ v, e = .returned v ∧ OwnS w' w.heap.size v xss ∧ Below w.heap.size w w' := by
 have hxl := hx.len
 go_enter Try.func138, Try.ntmps138
 go_wp2
 go_loopw [3, 8] (fun v iv wr => ∃ (k : Nat), iv = .int .i64 k ∧ k ≤ xss.length ∧ Hid (OwnS wr w.heap.size v (xss.take k)) ∧ Below w.heap.size w wr) (fun _ iv _ => xss.length - (intOf iv).toNat)
 case atStart => exact ⟨0, rfl, Nat.zero_le _, OwnS.nil _ _, Below.refl _ _⟩
 case round =>
  obtain ⟨k, rfl, hk, ho, hb⟩ := hrel
  have hsz := hb.size
  by_cases hkl : k < xss.length
  · obtain ⟨b1, o1, rfl, _, hc⟩ := (hx.below hb).at_ (by omega)
    obtain ⟨ai, ci, h1, hr⟩ := hc k hkl
    have htk := take_nthL hkl
    have htl : (xss.take k).length = k := by rw [List.length_take]; omega
    generalize nthL xss k = row at h1 hr htk
    have HTK := Lib.hid htk
    have HTL := Lib.hid htl
    clear hc htk htl
    go_wp2_with fail
    refine (clone_any ai ci row wr hr).mono ?_
    rintro e w1 ⟨v1, rfl, o1, b1⟩
    obtain ⟨a1, c1, rfl, _, _⟩ := o1.form
    have hH := ho.out.toH.belw b1 (Nat.le_refl _)
    have hs1 := b1.size
    have hb1 := hb.trans (b1.mono hsz)
    go_wp2_with (at_builtin; refine wpList_append_row rfl (.tmp 12) (.tmp 15) rfl (v := u3) rfl (hH.belw ((Below.refl _ _).alloc (Nat.le_refl _) _) hs1) _ rfl ((Blk.new w1 22 #[.slice a1 row.length c1] rfl).cell 0) (o1.alloc _) hsz (by simp; omega) (by rw [HTL.out]; omega) ?_; intro v2 w2 o2 g2 _)
    go_roundw
    case rel =>
     refine ⟨k + 1, by go_num, by omega, ?_, Below.stepS (hb1.alloc (by omega) _) g2 (hH.belw ((Below.refl _ _).alloc (Nat.le_refl _) _) hs1).own (Nat.le_refl _) (by simp; omega)⟩
     show OwnS _ _ _ _
     rw [HTK.out]
     exact o2
    case measure => simp only [intOf]; omega
  · have hke : k = xss.length := by omega
    have HE := Lib.hid hke
    clear hke
    go_wp2
    go_ret
    exact ⟨_, rfl, by have o := ho.out; rw [HE.out, List.take_length] at o; exact o, hb⟩
end Go.Proofs.Ytgmgpcaahanmiaa
namespace Go.Proofs.Ytgmgpcaahanmiaa
open Go.RowKit
def OwnSQ (w : World) (B : Nat) (v : Value) (xss : List (List Int)) (Q : Value → Prop) : Prop :=
 xss.length ≤ 1073741824 ∧ ∃ vs : List Value, w.ownsRow B 22 1 v xss.length vs ∧ Inner w B vs xss ∧ ∀ (i : Nat) (x : Value), vs[i]? = some x → Q x
section
variable {w w' : World} {B hi g n c : Nat} {v : Value} {yss : List (List Int)} {Q Q' : Value → Prop}
theorem OwnSQ.own (h : OwnSQ w B v yss Q) : OwnS w B v yss := by
 obtain ⟨hl, vs, hr, hin, _⟩ := h
 exact ⟨hl, vs, hr, hin⟩
theorem OwnSQ.imp (h : OwnSQ w B v yss Q) (hq : ∀ x, (∀ k, x.ownBlock = some k → k < w.heap.size) → Q x → Q' x) : OwnSQ w B v yss Q' := by
 obtain ⟨hl, vs, hr, hin, hQ⟩ := h
 exact ⟨hl, vs, hr, hin, fun i x hx => hq x (fun k hk => ((hin.2.1 i x hx).lt k hk).2) (hQ i x hx)⟩
theorem OwnS.toQ (h : OwnS w B v yss) (hq : ∀ x, (∀ k, x.ownBlock = some k → B ≤ k ∧ k < w.heap.size) → Q x) : OwnSQ w B v yss Q := by
 obtain ⟨hl, vs, hr, hin⟩ := h
 exact ⟨hl, vs, hr, hin, fun i x hx => hq x (fun k hk => (hin.2.1 i x hx).lt k hk)⟩
theorem OwnSQ.below (h : OwnSQ w B v yss Q) (hb : Below w.heap.size w w') : OwnSQ w' B v yss Q := by
 obtain ⟨hl, vs, hr, hin, hQ⟩ := h
 exact ⟨hl, vs, ownsRow_below hr hb (Nat.le_refl _), hin.below hb (Nat.le_refl _), hQ⟩
theorem OwnSQ.grow (h : OwnSQ w B v yss Q) {u : Value} {B' : Nat} {us : List Int} (hu : Own w B' u us) (hg : w.grownBy w' u.ownBlock) (hq : ∀ x, Q x → ∀ k, x.ownBlock = some k → u.ownBlock ≠ some k) : OwnSQ w' B v yss Q := by
 obtain ⟨hl, vs, hr, hin, hQ⟩ := h
 refine ⟨hl, vs, hr.kept hg ?_, ⟨hin.1, fun i x hx => (hin.2.1 i x hx).grow hg ?_, hin.2.2⟩, hQ⟩
 · rcases hub : u.ownBlock with _ | k
   · rcases hv : v.ownBlock with _ | k
     · exact .inl rfl
     · exact .inr (by simp)
   · refine .inr fun e => ?_
     exact Own.notSliceBlock hr hu k hub e
 · rcases hxb : x.ownBlock with _ | k
   · exact .inl rfl
   · exact .inr fun e => hq x (hQ i x hx) k hxb e.symm
theorem OwnSQ.row (h : OwnSQ w B v yss Q) {i : Nat} (hi : i < yss.length) :
    ∃ a c, Own w B (.slice a (nthL yss i).length c) (nthL yss i) ∧ Q (.slice a (nthL yss i).length c) ∧
     (∀ b off m d, v = .slice (some ⟨b, off, none⟩) m d → w.cell? ⟨b, off + i, none⟩ = some (.slice a (nthL yss i).length c)) ∧
     (∀ w' ys, Own w' B (.slice a (nthL yss i).length c) ys → ys.length = (nthL yss i).length → w.grownBy w' (Value.ownBlock (.slice a (nthL yss i).length c)) → OwnSQ w' B v (yss.set i ys) Q) ∧
     (∀ j a' c', j < yss.length → j ≠ i → (∀ b off m d, v = .slice (some ⟨b, off, none⟩) m d → w.cell? ⟨b, off + j, none⟩ = some (.slice a' (nthL yss j).length c')) → v.ownBlock ≠ none → ∀ k, Value.ownBlock (.slice a' (nthL yss j).length c') = some k → Value.ownBlock (.slice a (nthL yss i).length c) ≠ some k) := by
 obtain ⟨hl, vs, hr, hin, hQ⟩ := h
 have hil : i < vs.length := by rw [hin.1]; exact hi
 have hgi := List.getElem?_eq_getElem hil
 have ho := hin.2.1 i _ hgi
 obtain ⟨a, c, e, _, _⟩ := ho.form
 rw [e] at ho hgi
 have hne : ∀ k, Value.ownBlock (.slice a (nthL yss i).length c) = some k → v.ownBlock ≠ some k := Own.notSliceBlock hr ho
 have cellv : ∀ (q : Nat) (b off m d : Nat), q < vs.length → v = .slice (some ⟨b, off, none⟩) m d → w.cell? ⟨b, off + q, none⟩ = vs[q]? := by
  intro q b off m d hq hvv
  have hr2 := hr
  rcases hr.2 with ⟨rfl, _⟩ | ⟨g, cap, cur, rfl, _⟩
  · injection hvv with h0 _ _; cases h0
  · injection hvv with h0 _ _
    injection h0 with h0
    injection h0 with h1 h2
    subst h1; subst h2
    rw [Nat.zero_add]
    exact hr2.cellAt q (by have := hin.1; omega)
 refine ⟨a, c, ho, hQ i _ hgi, fun b off m d hvv => by rw [cellv i b off m d hil hvv, hgi], ?_, ?_⟩
 · intro w' ys ho' hyl hg
   refine ⟨by simpa using hl, vs, ?_, ⟨by simpa using hin.1, fun j x hx => ?_, hin.2.2⟩, hQ⟩
   · rw [List.length_set]
     refine hr.kept hg ?_
     rcases hx : v.ownBlock with _ | k
     · exact .inl rfl
     · exact .inr fun e2 => hne k e2.symm hx
   · by_cases hj : j = i
     · subst hj
       rw [hgi] at hx
       injection hx with hx
       subst hx
       rw [nthL_set_same hi]
       exact ho'
     · rw [nthL_set_ne (Ne.symm hj)]
       refine (hin.2.1 j x hx).grow hg ?_
       rcases hxb : x.ownBlock with _ | k
       · exact .inl rfl
       · exact .inr fun e2 => hin.2.2 i j _ _ k (Ne.symm hj) hgi hx e2.symm hxb
 · intro j a' c' hj hji hcell hv0 k hk hk2
   have hjl : j < vs.length := by rw [hin.1]; exact hj
   rcases hr.2 with ⟨rfl, h0⟩ | ⟨g, cap, cur, rfl, _⟩
   · exact hv0 rfl
   · have h1 := hcell g 0 _ _ rfl
     rw [cellv j g 0 _ _ hjl rfl] at h1
     exact hin.2.2 i j _ _ k (Ne.symm hji) hgi h1 hk2 hk
theorem OwnSQ.put (h : OwnSQ w B (.slice (some ⟨g, 0, none⟩) n c) yss Q) {r : Value} {ys : List Int} (hr : Own w hi r ys) (hB : B ≤ hi)
    (hlow : ∀ x, Q x → ∀ k, x.ownBlock = some k → k < hi) (hq : Q' r) (hQQ : ∀ x, Q x → Q' x) {j : Nat} (hj : j < yss.length) :
    OwnSQ (w.setCell ⟨g, j, none⟩ r) B (.slice (some ⟨g, 0, none⟩) n c) (yss.set j ys) Q' ∧ w.grownBy (w.setCell ⟨g, j, none⟩ r) (some g) := by
 have e := h.own.len
 subst e
 obtain ⟨hl, vs, ho, hin, hQ⟩ := h
 obtain ⟨h1, h2⟩ := ho.stored j r
 have row : ∀ (x : Value) (B2 : Nat) (xs : List Int), Own w B2 x xs → Own (w.setCell ⟨g, j, none⟩ r) B2 x xs := fun x B2 xs hx => row_grow ho h2 hx
 have cas : ∀ (q : Nat) (z : Value), (vs.set j r)[q]? = some z → (q = j ∧ z = r) ∨ (q ≠ j ∧ vs[q]? = some z) := fun q z hz => by
  by_cases e : q = j
  · subst e
    rw [List.getElem?_set_self (by rw [hin.1]; exact hj)] at hz
    injection hz with hz
    exact .inl ⟨rfl, hz.symm⟩
  · rw [List.getElem?_set_ne (Ne.symm e)] at hz
    exact .inr ⟨e, hz⟩
 refine ⟨⟨by simpa using hl, vs.set j r, by rw [List.length_set]; exact h1, ⟨by simp [hin.1], fun i x hx => ?_, fun i k x y b hik hx hy hxb hyb => ?_⟩, fun i x hx => ?_⟩, h2⟩
 · rcases cas i x hx with ⟨rfl, rfl⟩ | ⟨e1, e2⟩
   · rw [nthL_set_same hj]; exact (row _ _ _ hr).mono hB
   · rw [nthL_set_ne (Ne.symm e1)]; exact row _ _ _ (hin.2.1 i x e2)
 · rcases cas i x hx with ⟨e1, e2⟩ | ⟨e1, e2⟩ <;> rcases cas k y hy with ⟨f1, f2⟩ | ⟨f1, f2⟩
   · omega
   · subst e2
     have a1 := (hr.lt b hxb).1
     have a2 := hlow y (hQ k y f2) b hyb
     omega
   · subst f2
     have a1 := (hr.lt b hyb).1
     have a2 := hlow x (hQ i x e2) b hxb
     omega
   · exact hin.2.2 i k x y b hik e2 f2 hxb hyb
 · rcases cas i x hx with ⟨rfl, rfl⟩ | ⟨e1, e2⟩
   · exact hq
   · exact hQQ x (hQ i x e2)
theorem OwnSQ.swap (h : OwnSQ w B (.slice (some ⟨g, 0, none⟩) n c) yss Q) {i j : Nat} (hi : i < yss.length) (hj : j < yss.length) (hij : i ≠ j) {x y : Value} (hx : w.cell? ⟨g, i, none⟩ = some x) (hy : w.cell? ⟨g, j, none⟩ = some y) :
    OwnSQ ((w.setCell ⟨g, i, none⟩ y).setCell ⟨g, j, none⟩ x) B (.slice (some ⟨g, 0, none⟩) n c) ((yss.set i (nthL yss j)).set j (nthL yss i)) Q ∧ w.grownBy ((w.setCell ⟨g, i, none⟩ y).setCell ⟨g, j, none⟩ x) (some g) := by
 have e := h.own.len
 subst e
 obtain ⟨hl, vs, ho, hin, hQ⟩ := h
 have vx : vs[i]? = some x := by rw [← ho.cellAt i (by omega)]; exact hx
 have vy : vs[j]? = some y := by rw [← ho.cellAt j (by omega)]; exact hy
 obtain ⟨h1, h2⟩ := ho.stored i y
 obtain ⟨h3, h4⟩ := h1.stored j x
 have row : ∀ (z : Value) (B2 : Nat) (xs : List Int), Own w B2 z xs → Own ((w.setCell ⟨g, i, none⟩ y).setCell ⟨g, j, none⟩ x) B2 z xs := fun z B2 xs hz => row_grow h1 h4 (row_grow ho h2 hz)
 have hil : i < vs.length := by rw [hin.1]; exact hi
 have hjl : j < vs.length := by rw [hin.1]; exact hj
 have cas : ∀ (q : Nat) (z : Value), ((vs.set i y).set j x)[q]? = some z → ∃ q', vs[q']? = some z ∧ ((q = j ∧ q' = i) ∨ (q = i ∧ q ≠ j ∧ q' = j) ∨ (q ≠ i ∧ q ≠ j ∧ q' = q)) := fun q z hz => by
  by_cases e : q = j
  · subst e
    rw [List.getElem?_set_self (by rw [List.length_set]; exact hjl)] at hz
    injection hz with hz
    subst hz
    exact ⟨i, vx, .inl ⟨rfl, rfl⟩⟩
  · rw [List.getElem?_set_ne (Ne.symm e)] at hz
    by_cases e2 : q = i
    · subst e2
      rw [List.getElem?_set_self hil] at hz
      injection hz with hz
      subst hz
      exact ⟨j, vy, .inr (.inl ⟨rfl, e, rfl⟩)⟩
    · rw [List.getElem?_set_ne (Ne.symm e2)] at hz
      exact ⟨q, hz, .inr (.inr ⟨e2, e, rfl⟩)⟩
 refine ⟨⟨by simpa using hl, (vs.set i y).set j x, by simpa using h3, ⟨by simp [hin.1], fun q z hz => ?_, fun q k z u b hqk hz hu hzb hub => ?_⟩, fun q z hz => ?_⟩, grown_trans_row h2 h4⟩
 · obtain ⟨q', hq, hc⟩ := cas q z hz
   have o := row _ _ _ (hin.2.1 q' z hq)
   rcases hc with ⟨rfl, rfl⟩ | ⟨rfl, hne, rfl⟩ | ⟨h1, h2, rfl⟩
   · rw [nthL_set_same (by rw [List.length_set]; exact hj)]; exact o
   · rw [nthL_set_ne (Ne.symm hne), nthL_set_same hi]; exact o
   · rw [nthL_set_ne (Ne.symm h2), nthL_set_ne (Ne.symm h1)]; exact o
 · obtain ⟨q', hq, hc⟩ := cas q z hz
   obtain ⟨k', hk, hd⟩ := cas k u hu
   exact hin.2.2 q' k' z u b (by omega) hq hk hzb hub
 · obtain ⟨q', hq, _⟩ := cas q z hz
   exact hQ q' z hq
end
end Go.Proofs.Ytgmgpcaahanmiaa
namespace Go.Proofs.Ytgmgpcaahanmiaa
open Go.RowKit
theorem l19Field_any (q : Int) (w : World) : Calls Try.prog 161 #[.int .i64 q] w fun e w' => e = .returned (.bool (isField q)) ∧ w = w' := by
 have hc := l03Split_any q w
 unfold isField
 generalize hs : (split q).1 = s at hc
 have HC := hide hc
 clear hc hs
 by_cases h0 : 0 < s
 · go_enter Try.func161, Try.ntmps161
   go_wp2_with fail
   refine (unhide HC).mono ?_
   rintro e w1 ⟨rfl, rfl⟩
   go_wp2
   go_ret
   exact ⟨ret_bool (by simp [h0]), rfl⟩
 · go_enter Try.func161, Try.ntmps161
   go_wp2_with fail
   refine (unhide HC).mono ?_
   rintro e w1 ⟨rfl, rfl⟩
   go_wp2
   go_ret
   exact ⟨ret_bool (by simp [show ¬ 0 < s by omega]), rfl⟩
end Go.Proofs.Ytgmgpcaahanmiaa
namespace Go.Proofs.Ytgmgpcaahanmiaa
open Go.RowKit
def LIM : Int := 1000000000000
theorem capTo_anti {b l : Int} {j k : Nat} (hjk : j ≤ k) (h : capTo b l k ≤ l) : capTo b l j ≤ l := by
 rcases Int.lt_or_le l (capTo b l j) with h1 | h1
 · have := capTo_stop (b := b) (l := l) (k := j) (by omega) k hjk
   omega
 · exact h1
end Go.Proofs.Ytgmgpcaahanmiaa
namespace Go.Proofs.Ytgmgpcaahanmiaa
open Go.RowKit
theorem Blk.grown {w w' : World} {g : Nat} {t : TypeId} {cs : Array Value} {row : Option Nat} (h : Blk w g t cs) (hg : w.grownBy w' row) (hne : row ≠ some g) : Blk w' g t cs := (hg.block g h.lt (Ne.symm hne)).trans h
end Go.Proofs.Ytgmgpcaahanmiaa
namespace Go.Proofs.Ytgmgpcaahanmiaa
open Go.RowKit
def chTo (n k : Nat) : Nat → Int
 | 0 => 1
 | i + 1 => chTo n k i * ((n : Int) - (k : Int) + ((i : Int) + 1)) / ((i : Int) + 1)
def chOk (n k : Nat) : Bool := (List.range k).all fun (i : Nat) => decide (0 ≤ chTo n k i) && decide (chTo n k i * ((n : Int) - (k : Int) + ((i : Int) + 1)) ≤ 1000000000000)
theorem chOk_table : ∀ n : Nat, n < 33 → ∀ k : Nat, k < n + 1 → chOk n k = true := by decide +kernel
theorem ch_table (n : Nat) (hn : n < 33) (k : Nat) (hk : k < n + 1) (i : Nat) (hi : i < k) : (decide (0 ≤ chTo n k i) && decide (chTo n k i * ((n : Int) - (k : Int) + ((i : Int) + 1)) ≤ 1000000000000)) = true := by
 have := chOk_table n hn k hk
 rw [chOk, List.all_eq_true] at this
 exact this i (List.mem_range.2 hi)
def chooseV (n k : Int) : Int := if inB n 0 32 && inB k 0 n then chTo n.toNat k.toNat k.toNat else 0
theorem implChoose_any (n k : Int) (w : World) :
    Calls Try.prog 190 #[.int .i64 n, .int .i64 k] w fun e w' => e = .returned (.int .i64 (chooseV n k)) ∧ w = w' := by
 generalize hR : chooseV n k = R
 have HR := Lib.hid hR
 clear hR
 go_enter Try.func190, Try.ntmps190
 go_wp2_with fail
 refine (within_any n 0 32 w).mono ?_
 rintro e w1 ⟨rfl, rfl⟩
 rcases hf : inB n 0 32 with _ | _
 · have HF := Lib.hid hf
   clear hf
   go_wp2
   go_ret
   exact ⟨ret_int (by rw [← HR.out, chooseV, HF.out]; rfl), rfl⟩
 · obtain ⟨hn0, hn32⟩ := inB_true.1 hf
   have HF := Lib.hid hf
   clear hf
   go_wp2_with fail
   refine (within_any k 0 n w).mono ?_
   rintro e w1 ⟨rfl, rfl⟩
   rcases hk : inB k 0 n with _ | _
   · have HK := Lib.hid hk
     clear hk
     go_wp2
     go_ret
     exact ⟨ret_int (by rw [← HR.out, chooseV, HF.out, HK.out]; rfl), rfl⟩
   · obtain ⟨hk0, hkn⟩ := inB_true.1 hk
     have e1 : R = chTo n.toNat k.toNat k.toNat := by rw [← HR.out, chooseV, HF.out, hk]; rfl
     have E1 := Lib.hid e1
     clear hk e1
     obtain ⟨N, rfl⟩ := Int.eq_ofNat_of_zero_le hn0
     obtain ⟨K, rfl⟩ := Int.eq_ofNat_of_zero_le hk0
     go_wp2_with fail
     go_loop [5, 6] (fun ov iv => ∃ (i : Nat) (o : Int), iv = .int .i64 ((i : Int) + 1) ∧ ov = .int .i64 o ∧ i ≤ K ∧ Hid (chTo N K i = o)) (fun _ iv => K + 1 - (intOf iv).toNat)
     case atStart => exact ⟨0, 1, rfl, rfl, by omega, rfl⟩
     case round =>
      obtain ⟨i, o, rfl, rfl, hi, hc⟩ := hrel
      by_cases hik : i < K
      · have ht := ch_table N (by omega) K (by omega) i (by omega)
        rw [hc.out, Bool.and_eq_true, decide_eq_true_eq, decide_eq_true_eq] at ht
        obtain ⟨ht0, ht1⟩ := ht
        have hc1 : chTo N K (i + 1) = o * ((N : Int) - (K : Int) + ((i : Int) + 1)) / ((i : Int) + 1) := by rw [chTo, hc.out]
        have hq0 : 0 ≤ o * ((N : Int) - (K : Int) + ((i : Int) + 1)) := Int.mul_nonneg ht0 (by omega)
        have hq1 : 0 ≤ o * ((N : Int) - (K : Int) + ((i : Int) + 1)) / ((i : Int) + 1) := Int.ediv_nonneg hq0 (by omega)
        have hq2 : o * ((N : Int) - (K : Int) + ((i : Int) + 1)) / ((i : Int) + 1) ≤ o * ((N : Int) - (K : Int) + ((i : Int) + 1)) := Int.ediv_le_self _ hq0
        have HC := Lib.hid hc1
        clear hc1 hc
        go_wp2
        go_round
        case rel => exact ⟨i + 1, _, by go_num, rfl, by omega, HC⟩
        case measure => simp only [intOf]; omega
      · obtain rfl : i = K := by omega
        go_wp2
        go_ret
        exact ⟨ret_int (by rw [E1.out, Int.toNat_natCast, Int.toNat_natCast]; exact hc.out.symm), rfl⟩
end Go.Proofs.Ytgmgpcaahanmiaa
namespace Go.Proofs.Ytgmgpcaahanmiaa
open Go.RowKit
def prow : Nat → List Nat
 | 0 => [1]
 | n + 1 => List.zipWith (· + ·) (0 :: prow n) (prow n ++ [0])
def bin (n k : Nat) : Nat := (prow n).getD k 0
theorem prow_len (n : Nat) : (prow n).length = n + 1 := by
 induction n with
 | zero => rfl
 | succ n ih => simp [prow, ih]
theorem bin_zero (n : Nat) : bin n 0 = 1 := by
 induction n with
 | zero => rfl
 | succ n ih =>
  have h := prow_len n
  unfold bin at ih ⊢
  rw [prow]
  cases hp : prow n with
  | nil => rw [hp] at h; simp at h
  | cons x r => rw [hp] at ih; simp at ih ⊢; exact ih
theorem bin_succ (n k : Nat) : bin (n + 1) (k + 1) = bin n k + bin n (k + 1) := by
 have h := prow_len n
 unfold bin
 rw [prow]
 simp only [List.getD_eq_getElem?_getD, List.getElem?_zipWith, List.getElem?_cons_succ]
 rcases Nat.lt_or_ge (k + 1) (n + 1) with h1 | h1
 · rw [List.getElem?_append_left (by omega), List.getElem?_eq_getElem (by omega), List.getElem?_eq_getElem (by omega)]
   simp
 · rcases Nat.lt_or_ge k (n + 1) with h2 | h2
   · have : k + 1 = (prow n).length := by omega
     rw [List.getElem?_append_right (by omega), this, Nat.sub_self, List.getElem?_eq_getElem (show k < (prow n).length by omega)]
     simp
   · rw [List.getElem?_eq_none (show (prow n).length ≤ k by omega), List.getElem?_eq_none (show (prow n).length ≤ k + 1 by omega)]
     simp
theorem bin_big {n k : Nat} (h : n < k) : bin n k = 0 := by
 unfold bin
 rw [List.getD_eq_getElem?_getD, List.getElem?_eq_none (by rw [prow_len]; omega)]; rfl
theorem bin_table : ∀ n : Nat, n < 33 → ∀ k : Nat, k < n + 1 → chTo n k k = (bin n k : Int) := by decide +kernel
theorem chooseV_bin {n k : Nat} (hn : n ≤ 32) (hk : k ≤ n) : chooseV n k = (bin n k : Int) := by
 rw [chooseV, inB_yes (by omega) (by omega), inB_yes (by omega) (by omega)]
 simp only [Bool.and_self, if_true, Int.toNat_natCast]
 exact bin_table n (by omega) k (by omega)
def sumTo (f : Nat → Int) : Nat → Int
 | 0 => 0
 | n + 1 => sumTo f n + f n
theorem sumTo_add (f g : Nat → Int) (n : Nat) : sumTo (fun i => f i + g i) n = sumTo f n + sumTo g n := by
 induction n with
 | zero => rfl
 | succ n ih => simp only [sumTo, ih]; omega
theorem sumTo_mul (c : Int) (f : Nat → Int) (n : Nat) : sumTo (fun i => c * f i) n = c * sumTo f n := by
 induction n with
 | zero => simp [sumTo]
 | succ n ih => simp only [sumTo, ih, Int.mul_add]
theorem sumTo_shift (f : Nat → Int) (n : Nat) : sumTo f (n + 1) = f 0 + sumTo (fun i => f (i + 1)) n := by
 induction n with
 | zero => simp [sumTo]
 | succ n ih => rw [sumTo, ih]; simp only [sumTo]; omega
theorem sumTo_congr {f g : Nat → Int} {n : Nat} (h : ∀ i, i < n → f i = g i) : sumTo f n = sumTo g n := by
 induction n with
 | zero => rfl
 | succ n ih => rw [sumTo, sumTo, ih (fun i hi => h i (by omega)), h n (by omega)]
theorem sumTo_nonneg {f : Nat → Int} {n : Nat} (h : ∀ i, i < n → 0 ≤ f i) : 0 ≤ sumTo f n := by
 induction n with
 | zero => exact Int.le_refl _
 | succ n ih =>
  have := ih (fun i hi => h i (by omega))
  have := h n (by omega)
  rw [sumTo]; omega
theorem sumTo_mono {f : Nat → Int} (h : ∀ i, 0 ≤ f i) {m n : Nat} (hmn : m ≤ n) : sumTo f m ≤ sumTo f n := by
 induction n with
 | zero => obtain rfl : m = 0 := by omega
           exact Int.le_refl _
 | succ n ih =>
  by_cases e : m = n + 1
  · subst e; exact Int.le_refl _
  · have := ih (by omega)
    have := h n
    rw [sumTo]; omega
theorem binomial (a : Int) (n : Nat) : sumTo (fun i => (bin n i : Int) * a ^ i) (n + 1) = (a + 1) ^ n := by
 induction n with
 | zero => simp [sumTo, bin, prow]
 | succ n ih =>
  rw [sumTo_shift]
  have e1 : sumTo (fun i => (bin (n + 1) (i + 1) : Int) * a ^ (i + 1)) (n + 1) =
      sumTo (fun i => a * ((bin n i : Int) * a ^ i) + (bin n (i + 1) : Int) * a ^ (i + 1)) (n + 1) := by
   apply sumTo_congr
   intro i _
   rw [bin_succ, Int.natCast_add, Int.add_mul, Int.pow_succ, ← Int.mul_assoc, Int.mul_comm _ a]
  rw [e1, sumTo_add, sumTo_mul, ih]
  have e2 : sumTo (fun i => (bin n (i + 1) : Int) * a ^ (i + 1)) (n + 1) = sumTo (fun i => (bin n (i + 1) : Int) * a ^ (i + 1)) n := by
   rw [sumTo, bin_big (show n < n + 1 by omega)]; simp
  rw [e2]
  rw [sumTo_shift] at ih
  simp only [bin_zero, Int.natCast_one, Int.pow_zero, Int.mul_one] at ih ⊢
  rw [Int.pow_succ, Int.mul_add, Int.mul_one, Int.mul_comm]
  omega
def ballT (q : Int) (n : Nat) (i : Nat) : Int := chooseV n i * (q - 1) ^ i
def ballV (q : Int) (n r : Nat) : Int := sumTo (ballT q n) (r + 1)
theorem chooseV_nonneg {n : Nat} (hn : n ≤ 32) (i : Nat) : 0 ≤ chooseV n i := by
 by_cases h : i ≤ n
 · rw [chooseV_bin hn h]; omega
 · rw [chooseV, inB_no2 (show ¬ (i : Int) ≤ n by omega)]; simp
theorem ballT_nonneg {q : Int} (hq : 1 ≤ q) {n : Nat} (hn : n ≤ 32) (i : Nat) : 0 ≤ ballT q n i :=
 Int.mul_nonneg (chooseV_nonneg hn i) (Int.pow_nonneg (by omega))
theorem ball_all {q : Int} {n : Nat} (hn : n ≤ 32) : sumTo (ballT q n) (n + 1) = q ^ n := by
 have h := binomial (q - 1) n
 rw [Int.sub_add_cancel] at h
 rw [← h]
 apply sumTo_congr
 intro i hi
 rw [ballT, chooseV_bin hn (by omega)]
theorem ball_le {q : Int} (hq : 1 ≤ q) {n : Nat} (hn : n ≤ 32) {r : Nat} (hr : r ≤ n + 1) : sumTo (ballT q n) r ≤ q ^ n := by
 rw [← ball_all hn]
 exact sumTo_mono (ballT_nonneg hq hn) hr
theorem ballT_le {q : Int} (hq : 1 ≤ q) {n : Nat} (hn : n ≤ 32) {i : Nat} (hi : i ≤ n) : ballT q n i ≤ q ^ n := by
 have h1 := ball_le hq hn (show i + 1 ≤ n + 1 by omega)
 have h2 : 0 ≤ sumTo (ballT q n) i := sumTo_nonneg (fun j _ => ballT_nonneg hq hn j)
 rw [sumTo] at h1
 omega
theorem ball_pos {q : Int} (hq : 1 ≤ q) {n : Nat} (hn : n ≤ 32) (r : Nat) : 1 ≤ ballV q n r := by
 have h0 : ballT q n 0 = 1 := by
  rw [ballT]
  have h := chooseV_bin hn (Nat.zero_le n)
  rw [bin_zero] at h
  simp only [Int.pow_zero, Int.mul_one]
  exact h
 have := sumTo_mono (ballT_nonneg hq hn) (show 1 ≤ r + 1 by omega)
 have e : sumTo (ballT q n) 1 = 1 := by simp [sumTo, h0]
 unfold ballV
 omega
theorem capTo_eq {b l : Int} (hb : 1 ≤ b) {m : Nat} (h : capTo b l m ≤ l) : capTo b l m = b ^ m := by
 induction m with
 | zero => simp [capTo]
 | succ m ih =>
  have h1 := capTo_anti (show m ≤ m + 1 by omega) h
  rw [capTo_go h1, ih h1, Int.pow_succ]
end Go.Proofs.Ytgmgpcaahanmiaa
namespace Go.Proofs.Ytgmgpcaahanmiaa
open Go.RowKit
theorem pow_le_LIM {q : Int} (hq : 2 ≤ q) {n i : Nat} (h : q ^ n ≤ LIM) (hi : i ≤ n) : (q - 1) ^ i ≤ LIM :=
 Int.le_trans (pow_base (by omega) (show q - 1 ≤ q by omega) i) (Int.le_trans (pow_mono (by omega) hi) h)
theorem ballV_eq (q : Int) (n r : Nat) : ballV q n r = sumTo (ballT q n) (r + 1) := rfl
theorem ballSize_any (q : Int) (n r : Nat) (w : World) (hq : 2 ≤ q) (hq64 : q ≤ 64) (hn : n ≤ 32) (hr : r ≤ n) (hL : q ^ n ≤ LIM) :
    Calls Try.prog 118 #[.int .i64 q, .int .i64 n, .int .i64 r] w fun e w' => e = .returned (.int .i64 (ballV q n r)) ∧ w = w' := by
 have HL := Lib.hid hL
 clear hL
 go_enter Try.func118, Try.ntmps118
 go_wp2
 go_loop [7, 8, 12] (fun ov fv iv => ∃ (i : Nat) (o f : Int), iv = .int .i64 i ∧ ov = .int .i64 o ∧ fv = .int .i64 f ∧ i ≤ r + 1 ∧ 0 ≤ o ∧ o ≤ 1000000000000 ∧ 0 ≤ f ∧ Hid (sumTo (ballT q n) i = o) ∧ Hid (f = (q - 1) ^ i)) (fun _ _ iv => r + 1 - (intOf iv).toNat)
 case atStart => exact ⟨0, 0, 1, rfl, rfl, rfl, by omega, by omega, by omega, by omega, rfl, show _ = _ by simp⟩
 case round =>
  obtain ⟨i, o, f, rfl, rfl, rfl, hi, ho0, ho1, hf0, hs, hf⟩ := hrel
  by_cases hir : i ≤ r
  · have hS : sumTo (ballT q n) (i + 1) = o + chooseV n i * f := by rw [sumTo, hs.out, ballT, ← hf.out]
    have hb := ball_le (q := q) (by omega) hn (show i + 1 ≤ n + 1 by omega)
    have hL := HL.out
    have ht0 := ballT_nonneg (q := q) (by omega) hn i
    have ht1 := ballT_le (q := q) (by omega) hn (show i ≤ n by omega)
    rw [hS] at hb
    rw [ballT, ← hf.out] at ht0 ht1
    have hfl := pow_le_LIM hq hL (show i ≤ n by omega)
    rw [← hf.out] at hfl
    unfold LIM at hfl
    have hX := fun W => implChoose_any n i W
    generalize chooseV n i = X at hS hb ht0 ht1 hX
    have hF : f * (q - 1) = (q - 1) ^ (i + 1) := by rw [Int.pow_succ, ← hf.out]
    have HS := Lib.hid hS
    have HF := Lib.hid hF
    have HX := hide hX
    have hb2 : o + X * f ≤ 1000000000000 := by unfold LIM at hL; omega
    have ht2 : X * f ≤ 1000000000000 := by unfold LIM at hL; omega
    have hfq0 : 0 ≤ f * (q - 1) := Int.mul_nonneg hf0 (by omega)
    have hfq1 : f * (q - 1) ≤ 100000000000000 := by
     have := Int.mul_le_mul hfl (show q - 1 ≤ 63 by omega) (by omega) (by omega)
     omega
    clear hS hs hX hb hL ht1 hF hf
    go_wp2_with fail
    refine (unhide HX _).mono ?_
    rintro e w1 ⟨rfl, rfl⟩
    go_wp2
    go_round
    case rel => exact ⟨i + 1, o + X * f, f * (q - 1), by go_num, rfl, rfl, by omega, by omega, hb2, hfq0, HS, HF⟩
    case measure => simp only [intOf]; omega
  · obtain rfl : i = r + 1 := by omega
    go_wp2
    go_ret
    exact ⟨ret_int hs.out.symm, rfl⟩
end Go.Proofs.Ytgmgpcaahanmiaa
