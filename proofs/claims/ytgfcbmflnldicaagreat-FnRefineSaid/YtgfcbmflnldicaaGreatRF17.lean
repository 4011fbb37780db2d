/-
  Texts joined.
-/
import Derived.Test.YtgfcbmflnldicaaGreatRF1
import Derived.Test.YtgfcbmflnldicaaGreatRF3
import Derived.Test.YtgfcbmflnldicaaGreatRF5
import Derived.Test.YtgfcbmflnldicaaGreatRF6
import Derived.Test.YtgfcbmflnldicaaGreatRF7
set_option linter.unusedVariables false
set_option linter.unusedSimpArgs false
set_option maxRecDepth 100000
set_option maxHeartbeats 40000000
namespace Go.Proofs.YtgfcbmflnldicaaGreat
open Go.RowKit
attribute [local go_sem ↓] Go.wp_at_zero Go.wp_at_succ
def OfSt (w : World) (B g : Nat) (v1 : Value) (xs : List Int) (es : List (Int × Int)) : Prop := ∃ u, Blk w g 27 #[v1, u] ∧ Own w B v1 xs ∧ OwnE w B u es
section
variable {w w' : World} {B g : Nat} {v u : Value} {xs : List Int} {es : List (Int × Int)} {cs : Array Value}
theorem Blk.grownG {t : TypeId} {row : Option Nat} (k : Blk w g t cs) (hg : w.grownBy w' row) (hne : row ≠ some g) : Blk w' g t cs := (hg.block g k.lt (fun e => hne e.symm)).trans k
theorem OwnE.ne_blk (h : OwnE w B v es) (k : Blk w g 27 cs) : v.ownBlock ≠ some g := by
 rcases h.2.2 with ⟨rfl, _⟩ | ⟨g', cap, cur, rfl, _, hg, _⟩
 · simp [Value.ownBlock]
 · intro e
   simp only [Value.ownBlock, Option.some.injEq] at e
   subst e
   have k : w.heap[g']? = some (.cells cs 27 (0, 0)) := k
   rw [hg] at k
   injection k with h1
   injection h1 with _ h2
   exact absurd h2 (by decide)
theorem Own.ne_blk (h : Own w B v xs) (k : Blk w g 27 cs) : v.ownBlock ≠ some g := by
 rcases h.2.2 with ⟨rfl, _⟩ | ⟨g', cap, cur, rfl, _, hg, _⟩
 · simp [Value.ownBlock]
 · intro e
   simp only [Value.ownBlock, Option.some.injEq] at e
   subst e
   have k : w.heap[g']? = some (.cells cs 27 (0, 0)) := k
   rw [hg] at k
   injection k with h1
   injection h1 with _ h2
   exact absurd h2 (by decide)
theorem Own.ne_edges {B' : Nat} (o : Own w B v xs) (h : OwnE w B' u es) : v.ownBlock = none ∨ v.ownBlock ≠ u.ownBlock := by
 rcases h.ne_ints o with e | e
 · rw [e]
   rcases Classical.em (v.ownBlock = none) with h2 | h2
   · exact .inl h2
   · exact .inr h2
 · exact .inr fun e2 => e e2.symm
theorem OfSt.below (h : OfSt w B g v xs es) (hb : Below w.heap.size w w') : OfSt w' B g v xs es := by
 obtain ⟨u, k, o, e⟩ := h
 exact ⟨u, k.below hb k.lt, o.below hb (Nat.le_refl _), e.below hb (Nat.le_refl _)⟩
theorem neO {x : Option Nat} (h : x ≠ some g) : x = none ∨ x ≠ some g := .inr h
theorem OfSt.push {w1 w2 : World} {u' : Value} {e : Int × Int} (k : Blk w g 27 #[v, u]) (o : Own w B v xs) (oe : OwnE w B u es) (hb : Below w.heap.size w w1) (hg : w1.grownBy w2 u.ownBlock) (o2 : OwnE w2 B u' (es ++ [e])) :
    w2.cell? ⟨g, 1, none⟩ = some u ∧ w2.frozen? ⟨g, 1, none⟩ = false ∧ OfSt (w2.setCell ⟨g, 1, none⟩ u') B g v xs (es ++ [e]) := by
 have k1 := k.below hb k.lt
 have o1 := o.below hb (Nat.le_refl _)
 have e1 := oe.below hb (Nat.le_refl _)
 have k2 := k1.grownG hg (e1.ne_blk k1)
 have o3 := o1.grow hg (o1.ne_edges e1)
 have k3 := k2.set_ 1 u'
 have gs := grownBy_setC w2 g 1 u'
 refine ⟨k2.cell 1, k2.frozen 1, u', ?_, o3.grow gs (.inr (o3.ne_blk k2)), o2.grow gs (.inr (o2.ne_blk k2))⟩
 simpa using k3
end
theorem l21Of_any (a : Option Addr) (c : Nat) (xs : List Int) (tv : Value) (Bt : Nat) (T : Nat → Nat → Bool) (w : World) (hx : Rd w a xs) (hn : xs.length ≤ 1000) (ht : TabB w Bt tv xs.length xs.length T) :
    Calls Tryz.prog 182 #[.slice a xs.length c, tv] w fun e w' => ∃ v u, e = .returned (.agg #[v, u]) ∧ OwnG2 w' w.heap.size v u xs (edgesT xs.length T xs.length) ∧ Below w.heap.size w w' := by
 obtain ⟨ta, tc, rfl⟩ := ht.form
 obtain ⟨w0, hw0⟩ : ∃ w0, w0 = w.alloc (.cells #[.slice none 0 0, .slice none 0 0] 27) := ⟨_, rfl⟩
 have hb0 : Below w.heap.size w w0 := by rw [hw0]; exact (Below.refl _ _).alloc (Nat.le_refl _) _
 have kA : Blk w0 w.heap.size 27 #[.slice none 0 0, .slice none 0 0] := by rw [hw0]; exact Blk.new _ _ _ rfl
 have s0 : w0.heap.size = w.heap.size + 1 := by rw [hw0]; simp
 have BA := hide (show ∀ W, Below w0.heap.size w0 W → Blk W w.heap.size 27 #[.slice none 0 0, .slice none 0 0] from fun W h => kA.below h kA.lt)
 have how := l00Own_any a c xs w0 (hx.below hb0)
 have HOW := hide how
 have HT := hide (ht.below hb0)
 have HW := Lib.hid hw0
 obtain ⟨n, hnn⟩ : ∃ n, n = xs.length := ⟨_, rfl⟩
 have HN := Lib.hid hnn
 clear how hw0 hx ht kA
 go_enter Tryz.func182, Tryz.ntmps182
 go_wp2_with fail
 rw [← HW.out]
 refine (unhide HOW).mono ?_
 rintro e w1 ⟨v1, rfl, o1, b1⟩
 obtain ⟨a1, c1, rfl, _, _⟩ := o1.form
 have z1 := b1.size
 obtain ⟨W2, hW2⟩ : ∃ z, z = w1.alloc (.cells #[] 142) := ⟨_, rfl⟩
 have e2 : OwnE W2 w0.heap.size (.slice (some ⟨w1.heap.size, 0, none⟩) 0 0) [] := by rw [hW2]; exact OwnE.empty w1 z1
 have b2 : Below w1.heap.size w1 W2 := by rw [hW2]; exact (Below.refl _ _).alloc (Nat.le_refl _) _
 have s2 : W2.heap.size = w1.heap.size + 1 := by rw [hW2]; simp
 obtain ⟨W3, hW3⟩ : ∃ z, z = W2.alloc (.cells #[.slice a1 xs.length c1, .slice (some ⟨w1.heap.size, 0, none⟩) 0 0] 27) := ⟨_, rfl⟩
 have b3 : Below W2.heap.size W2 W3 := by rw [hW3]; exact (Below.refl _ _).alloc (Nat.le_refl _) _
 have k3 : Blk W3 (w1.heap.size + 1) 27 #[.slice a1 xs.length c1, .slice (some ⟨w1.heap.size, 0, none⟩) 0 0] := by rw [hW3]; exact Blk.new _ _ _ s2.symm
 have d3 := Below.chain (Below.chain b1 b2) b3
 have st3 : OfSt W3 w0.heap.size (w1.heap.size + 1) (.slice a1 xs.length c1) xs (edgesT xs.length T 0) := ⟨_, k3, o1.below (Below.chain b2 b3) (Nat.le_refl _), e2.below b3 (Nat.le_refl _)⟩
 have ST := hide st3
 rw [hW2] at hW3
 have HW3 := Lib.hid hW3
 clear hW2 hW3 st3 e2 o1 k3
 go_wp2_with fail
 rw [← HW3.out]
 go_loopw [6] (fun iv wr => ∃ k : Nat, iv = .int .i64 k ∧ k ≤ xs.length ∧ Hid (OfSt wr w0.heap.size (w1.heap.size + 1) (.slice a1 xs.length c1) xs (edgesT xs.length T k)) ∧ Below w0.heap.size w0 wr) (fun iv _ => xs.length - (intOf iv).toNat)
 case atStart => exact ⟨0, rfl, Nat.zero_le _, ST, d3⟩
 case round =>
  obtain ⟨k, rfl, hk, hs, hb⟩ := hrel
  rename World => wo
  by_cases hkn : k < xs.length
  · have ST2 := hide (show OfSt wo w0.heap.size (w1.heap.size + 1) (.slice a1 xs.length c1) xs (edgesT xs.length T k ++ rowToT T k (k + 1)) by rw [rowToT_start, List.append_nil]; exact hs.out)
    clear hs
    go_wp2_with fail
    go_loopw [7] (fun iv wr => ∃ j : Nat, iv = .int .i64 j ∧ k + 1 ≤ j ∧ j ≤ xs.length ∧ Hid (OfSt wr w0.heap.size (w1.heap.size + 1) (.slice a1 xs.length c1) xs (edgesT xs.length T k ++ rowToT T k j)) ∧ Below w0.heap.size w0 wr) (fun iv _ => xs.length - (intOf iv).toNat)
    case atStart => exact ⟨k + 1, by go_num, Nat.le_refl _, by omega, ST2, hb⟩
    case round =>
     obtain ⟨j, rfl, hkj, hj, hs, hb⟩ := hrel
     have hsz := hb.size
     by_cases hjn : j < xs.length
     · have tt := (unhide HT).below hb
       obtain ⟨_, g, rfl, _, hg⟩ := tt.addr (by omega)
       obtain ⟨q, c1', c2, _⟩ := tt.at_ hkn hjn
       cases htv : T k j with
       | true =>
        rw [htv] at c2
        have hst := rowToT_yes (T := T) (a := k) (b := j) (by omega) htv
        obtain ⟨u, ku, ou, eu⟩ := hs.out
        obtain ⟨eu', hel⟩ : ∃ z, z = edgesT xs.length T k ++ rowToT T k j := ⟨_, rfl⟩
        have hst2 : edgesT xs.length T k ++ rowToT T k (j + 1) = eu' ++ [((k : Int), (j : Int))] := by rw [hst, ← List.append_assoc, ← hel]
        have hlen : eu'.length ≤ 1100000 := by
         have h1 := Nat.le_trans (edgesT_len xs.length T k) (Nat.mul_le_mul (show k ≤ 1000 by omega) hn)
         have h2 := rowToT_len T k j
         rw [hel, List.length_append]
         omega
        rw [← hel] at eu
        obtain ⟨au, cu, rfl⟩ := eu.slice_val
        have HST := Lib.hid hst2
        have KU := hide ku
        have OU := hide ou
        have EU := hide eu
        have cc0 := ku.cell 0
        have cc1 := ku.cell 1
        clear hst hst2 htv tt hs ku ou eu hel
        go_wp2_with (at_builtin; refine wpList_append_edge rfl (.tmp 34) (.tmp 38) rfl rfl ((unhide EU).below ((Below.refl _ _).alloc (Nat.le_refl _) _) (Nat.le_refl _)) ((k : Int), (j : Int)) wr.heap.size rfl ((Blk.new wr 142 #[.int .i64 (k : Int), .int .i64 (j : Int)] rfl).cell 0) ((Blk.new wr 142 #[.int .i64 (k : Int), .int .i64 (j : Int)] rfl).cell 1) (by simp; omega) (by omega) ?_; intro v5 w5 o5 g5 _; obtain ⟨a5, c5, rfl⟩ := o5.slice_val; have pu := OfSt.push (unhide KU) (unhide OU) (unhide EU) ((Below.refl _ _).alloc (Nat.le_refl _) _) g5 o5; have qc := pu.1; have qf := pu.2.1)
        go_roundw
        case rel =>
         refine ⟨j + 1, by go_num, by omega, by omega, ?_, ((hb.alloc (by omega) _).grown g5 (by simp; omega) (fun q hq => ((unhide EU).lt q hq).1)).setCell (by show w0.heap.size ≤ w1.heap.size + 1; omega) _⟩
         show OfSt _ _ _ _ _ _
         rw [HST.out]
         have h := pu.2.2
         rw [show (eu' ++ [((k : Int), (j : Int))]).length = eu'.length + 1 by simp] at h
         exact h
        case measure => simp only [intOf]; omega
       | false =>
        rw [htv] at c2
        have hst := rowToT_no (T := T) (a := k) (b := j) htv
        have HST := Lib.hid hst
        clear hst htv tt
        go_wp2_with fail
        go_roundw
        case rel => exact ⟨j + 1, by go_num, by omega, by omega, by show OfSt _ _ _ _ _ _; rw [HST.out]; exact hs.out, hb⟩
        case measure => simp only [intOf]; omega
     · have hjn : j = xs.length := by omega
       have HJ := Lib.hid hjn
       clear hjn
       go_wp2_with fail
       go_roundw
       case rel => exact ⟨k + 1, by go_num, by omega, by show OfSt _ _ _ _ _ _; rw [edgesT_succ, ← rowToT_all]; have h := hs.out; rw [HJ.out] at h; exact h, hb⟩
       case measure => simp only [intOf]; omega
  · have hke : k = xs.length := by omega
    have HK := Lib.hid hke
    have hso := hs.out
    rw [HK.out] at hso
    obtain ⟨u, ku, ou, eu⟩ := hso
    obtain ⟨au, cu, rfl⟩ := eu.slice_val
    have cc0 := ku.cell 0
    have cc1 := ku.cell 1
    have kr := unhide BA wo hb
    have r0 := kr.cell 0
    have r1 := kr.cell 1
    have s0' := kr.frozen 0
    have s1' := kr.frozen 1
    have OU := hide ou
    have EU := hide eu
    clear hke hs ku ou eu
    go_wp2_with fail
    refine bodyPost_ret (results_cell_row rfl _ _ w.heap.size 27 #[.slice a1 xs.length c1, .slice au (edgesT xs.length T xs.length).length cu] (0, 0) _ rfl ((kr.set_ 0 _).set_ 1 _) Tryz.underlying27 rfl (by kernel_rfl)) rfl ⟨_, _, rfl, ⟨?_, ?_⟩, ?_⟩
    · exact (((unhide OU).storeBelow (by show w.heap.size < _; omega) _).storeBelow (by show w.heap.size < _; omega) _).mono (by omega)
    · exact (((unhide EU).storeBelow (by show w.heap.size < _; omega) _).storeBelow (by show w.heap.size < _; omega) _).mono (by omega)
    · exact ((hb0.trans (hb.mono (by omega))).setCell (by show _ ≤ w.heap.size; omega) _).setCell (by show _ ≤ w.heap.size; omega) _
end Go.Proofs.YtgfcbmflnldicaaGreat
namespace Go.Proofs.YtgfcbmflnldicaaGreat
open Go.RowKit
attribute [local go_sem ↓] Go.wp_at_zero Go.wp_at_succ
theorem cmpE_neg {e f : Int × Int} : cmpE e f < 0 ↔ LtE e f := by
 have h := lessE_iff (e := e) (f := f)
 rw [lessE, decide_eq_true_eq] at h
 exact h
end Go.Proofs.YtgfcbmflnldicaaGreat
namespace Go.Proofs.YtgfcbmflnldicaaGreat
theorem many_len (xs : List Int) : many xs ≤ xs.length := by
 have h := (cmpct_len eqI (sortI xs))
 rw [sortI_len] at h
 exact h
theorem many_le_dist {K : List (List Int)} {C : List Int} (hl : K.length = C.length) (hh : ∀ v, v < C.length → hdI (nthL K v) = nth C v) : many C ≤ (distL K).length := by
 obtain ⟨s, h1, h2, h3, _⟩ := exists_dedup ((distL K).map hdI)
 have hn := (distI_strict C).imp (fun {a b} (h : a < b) => (by omega : a ≠ b))
 have hp : s.Perm (distI C) := (List.perm_ext_iff_of_nodup h1 hn).2 fun x => by
  rw [h2, List.mem_map, distI_mem]
  constructor
  · rintro ⟨k, hk, rfl⟩
    rw [distL_mem] at hk
    obtain ⟨i, hi, rfl⟩ := List.getElem_of_mem hk
    have := hh i (by omega)
    rw [nthL_lt hi] at this
    rw [this]
    exact nth_mem (by omega)
  · intro h
    obtain ⟨i, hi, rfl⟩ := List.getElem_of_mem h
    exact ⟨nthL K i, by rw [distL_mem]; exact nthL_mem (by omega), by rw [hh i hi, nth_lt hi]⟩
 have := hp.length_eq
 rw [List.length_map] at h3
 rw [many]
 omega
theorem many_round (near : List (List Int)) (C : List Int) : many C ≤ many (roundT near C) := by
 rw [roundT, many_ranks]
 exact many_le_dist (keysOf_len near C) fun v hv => by rw [keysOf_nth _ hv]; rfl
def refF (near : List (List Int)) : Nat → List Int → List Int
 | 0, C => roundT near C
 | f + 1, C => if many (roundT near C) = many C then roundT near C else refF near f (roundT near C)
theorem refF_stop {near : List (List Int)} {C : List Int} (h : many (roundT near C) = many C) : ∀ f, refF near f C = roundT near C
 | 0 => rfl
 | f + 1 => by rw [refF, if_pos h]
theorem refF_go {near : List (List Int)} {C : List Int} (h : many (roundT near C) ≠ many C) (f : Nat) : refF near (f + 1) C = refF near f (roundT near C) := by rw [refF, if_neg h]
theorem refF_len (near : List (List Int)) : ∀ f C, (refF near f C).length = C.length
 | 0, C => roundT_len near C
 | f + 1, C => by
  rw [refF]
  split
  · exact roundT_len near C
  · rw [refF_len near f, roundT_len]
theorem refF_end (near : List (List Int)) : ∀ f C, C.length ≤ f + many C → ∃ D, D.length = C.length ∧ refF near f C = roundT near D ∧ many (roundT near D) = many D
 | 0, C, h => ⟨C, rfl, rfl, by
  have h1 := many_round near C
  have h2 := many_len (roundT near C)
  rw [roundT_len] at h2
  omega⟩
 | f + 1, C, h => by
  by_cases e : many (roundT near C) = many C
  · exact ⟨C, rfl, refF_stop e _, e⟩
  · have h1 := many_round near C
    obtain ⟨D, d1, d2, d3⟩ := refF_end near f (roundT near C) (by rw [roundT_len]; omega)
    exact ⟨D, by rw [d1, roundT_len], by rw [refF_go e, d2], d3⟩
section
variable {near : List (List Int)} {C : List Int} {u v : Nat}
theorem keyAt_mem (hu : u < C.length) : keyAt near C u ∈ distL (keysOf near C) := by
 rw [distL_mem, keysOf, List.mem_map]
 exact ⟨u, List.mem_range.2 hu, rfl⟩
theorem round_eq (hu : u < C.length) (hv : v < C.length) : nth (roundT near C) u = nth (roundT near C) v ↔ keyAt near C u = keyAt near C v := by
 rw [roundT_nth _ hu, roundT_nth _ hv]
 constructor
 · intro h
   exact rankL_inj (keyAt_mem hu) (keyAt_mem hv) (by omega)
 · intro h; rw [h]
theorem round_fine (hu : u < C.length) (hv : v < C.length) (h : nth (roundT near C) u = nth (roundT near C) v) : nth C u = nth C v := by
 have := (round_eq hu hv).1 h
 rw [keyAt, keyAt] at this
 exact (List.cons.inj this).1
theorem round_lt (hu : u < C.length) (hv : v < C.length) (h : nth C u < nth C v) : nth (roundT near C) u < nth (roundT near C) v := by
 rw [roundT_nth _ hu, roundT_nth _ hv]
 have := rankL_lt (keyAt_mem hu) (show LtL (keyAt near C u) (keyAt near C v) from ltL_cons.2 (.inl h))
 omega
theorem ref_fine : ∀ f (C : List Int), u < C.length → v < C.length → nth (refF near f C) u = nth (refF near f C) v → nth C u = nth C v
 | 0, _, hu, hv, h => round_fine hu hv h
 | f + 1, C, hu, hv, h => by
  rw [refF] at h
  split at h
  · exact round_fine hu hv h
  · exact round_fine hu hv (ref_fine f _ (by rw [roundT_len]; exact hu) (by rw [roundT_len]; exact hv) h)
theorem ref_lt : ∀ f (C : List Int), u < C.length → v < C.length → nth C u < nth C v → nth (refF near f C) u < nth (refF near f C) v
 | 0, _, hu, hv, h => round_lt hu hv h
 | f + 1, C, hu, hv, h => by
  rw [refF]
  split
  · exact round_lt hu hv h
  · exact ref_lt f _ (by rw [roundT_len]; exact hu) (by rw [roundT_len]; exact hv) (round_lt hu hv h)
end
theorem map_perm_of {α : Type} {f g : α → Int} {xs ys : List α} {φ : Int → Int} (hx : ∀ x ∈ xs, g x = φ (f x)) (hy : ∀ y ∈ ys, g y = φ (f y)) (h : (xs.map f).Perm (ys.map f)) : (xs.map g).Perm (ys.map g) := by
 have e1 : xs.map g = (xs.map f).map φ := by rw [List.map_map]; exact List.map_congr_left hx
 have e2 : ys.map g = (ys.map f).map φ := by rw [List.map_map]; exact List.map_congr_left hy
 rw [e1, e2]
 exact h.map φ
theorem ref_equit {near : List (List Int)} {C : List Int} {f : Nat} (h : C.length ≤ f + many C) (hn : ∀ v, v < C.length → ∀ w ∈ nthL near v, 0 ≤ w ∧ w.toNat < C.length) : equit near (refF near f C) = true := by
 obtain ⟨D, hl, e, hm⟩ := refF_end near f C h
 rw [e, equit_iff, roundT_len]
 have heq : equit near D = true := by rw [equit, decide_eq_true_eq]; exact hm
 rw [equit_iff] at heq
 intro u v hu hv huv
 have hk := (round_eq hu hv).1 huv
 rw [keyAt, keyAt, huv]
 congr 1
 rw [keyAt, keyAt] at hk
 have hp := sortI_iff.1 (List.cons.inj hk).2
 refine sortI_congr ?_
 -- the new cell is told by the old one
 have hφ : ∃ φ : Int → Int, ∀ w, w < D.length → nth (roundT near D) w = φ (nth D w) := by
  refine ⟨fun x => ((List.range D.length).filterMap fun w => if nth D w = x then some (nth (roundT near D) w) else none).headD 0, fun w hw => ?_⟩
  dsimp only
  have hmem : nth (roundT near D) w ∈ (List.range D.length).filterMap fun w' => if nth D w' = nth D w then some (nth (roundT near D) w') else none := by
   rw [List.mem_filterMap]
   exact ⟨w, List.mem_range.2 hw, by rw [if_pos rfl]⟩
  have hall : ∀ y ∈ (List.range D.length).filterMap (fun w' => if nth D w' = nth D w then some (nth (roundT near D) w') else none), y = nth (roundT near D) w := fun y hy => by
   rw [List.mem_filterMap] at hy
   obtain ⟨w', h1, h2⟩ := hy
   split at h2
   · rename_i h3
     injection h2 with h2
     rw [← h2]
     exact (round_eq (List.mem_range.1 h1) hw).2 (heq w' w (List.mem_range.1 h1) hw h3)
   · cases h2
  generalize (List.range D.length).filterMap (fun w' => if nth D w' = nth D w then some (nth (roundT near D) w') else none) = L at hmem hall
  cases L with
  | nil => simp at hmem
  | cons y L => exact (hall y (List.mem_cons_self ..)).symm
 obtain ⟨φ, hφ⟩ := hφ
 refine map_perm_of (φ := φ) (fun w hw => hφ _ ?_) (fun w hw => hφ _ ?_) hp
 · have := (hn u (by omega) w hw).2; omega
 · have := (hn v (by omega) w hw).2; omega
theorem keyAt_moved {near near' : List (List Int)} {C C' : List Int} {p : Nat → Nat} {v : Nat} (hc : ∀ w, w < C.length → nth C' (p w) = nth C w) (hv : v < C.length) (hn : ∀ w ∈ nthL near v, 0 ≤ w ∧ w.toNat < C.length)
    (hp : (nthL near' (p v)).Perm ((nthL near v).map fun w => ((p w.toNat : Nat) : Int))) : keyAt near' C' (p v) = keyAt near C v := by
 rw [keyAt, keyAt, hc v hv]
 congr 1
 refine sortI_congr ?_
 refine (hp.map _).trans ?_
 rw [List.map_map]
 refine List.Perm.of_eq (List.map_congr_left fun w hw => ?_)
 show nth C' ((p w.toNat : Nat) : Int).toNat = _
 rw [Int.toNat_natCast, hc _ (hn w hw).2]
structure Moved (n : Nat) (p : Nat → Nat) (C C' : List Int) : Prop where
 l : C.length = n
 l' : C'.length = n
 at_ : ∀ v, v < n → nth C' (p v) = nth C v
theorem round_moved {near near' : List (List Int)} {C C' : List Int} {p : Nat → Nat} {n : Nat} (hp : ∀ v, v < n → p v < n) (hs : ∀ w, w < n → ∃ v, v < n ∧ p v = w) (hm : Moved n p C C') (hn : ∀ v, v < n → ∀ w ∈ nthL near v, 0 ≤ w ∧ w.toNat < n)
    (hq : ∀ v, v < n → (nthL near' (p v)).Perm ((nthL near v).map fun w => ((p w.toNat : Nat) : Int))) : Moved n p (roundT near C) (roundT near' C') ∧ many C' = many C := by
 have hl := hm.l
 have hl' := hm.l'
 have hk : ∀ v, v < n → keyAt near' C' (p v) = keyAt near C v := fun v hv => keyAt_moved (fun w hw => hm.at_ w (by omega)) (by omega) (fun w hw => by have := hn v hv w hw; rw [hl]; exact this) (hq v hv)
 have hd : distL (keysOf near' C') = distL (keysOf near C) := distL_eq (distL_strict _) fun x => by
  rw [distL_mem, keysOf, keysOf, List.mem_map, List.mem_map, hl, hl']
  constructor
  · rintro ⟨w, h1, rfl⟩
    obtain ⟨v, hv, rfl⟩ := hs w (List.mem_range.1 h1)
    exact ⟨v, List.mem_range.2 hv, (hk v hv).symm⟩
  · rintro ⟨v, h1, rfl⟩
    exact ⟨p v, List.mem_range.2 (hp v (List.mem_range.1 h1)), hk v (List.mem_range.1 h1)⟩
 refine ⟨⟨by rw [roundT_len, hl], by rw [roundT_len, hl'], fun v hv => ?_⟩, ?_⟩
 · rw [roundT_nth _ (by rw [hl']; exact hp v hv), roundT_nth _ (by omega), hd, hk v hv]
 · have : distI C' = distI C := distI_eq (distI_strict _) fun x => by
     rw [distI_mem]
     constructor
     · intro h
       obtain ⟨w, hw, rfl⟩ := List.getElem_of_mem h
       obtain ⟨v, hv, e⟩ := hs w (by omega)
       rw [← nth_lt hw, ← e, hm.at_ v hv]
       exact nth_mem (by omega)
     · intro h
       obtain ⟨v, hv, rfl⟩ := List.getElem_of_mem h
       rw [← nth_lt hv, ← hm.at_ v (by omega)]
       exact nth_mem (by rw [hl']; exact hp v (by omega))
   rw [many, many, this]
theorem ref_moved {near near' : List (List Int)} {p : Nat → Nat} {n : Nat} (hp : ∀ v, v < n → p v < n) (hs : ∀ w, w < n → ∃ v, v < n ∧ p v = w) (hn : ∀ v, v < n → ∀ w ∈ nthL near v, 0 ≤ w ∧ w.toNat < n)
    (hq : ∀ v, v < n → (nthL near' (p v)).Perm ((nthL near v).map fun w => ((p w.toNat : Nat) : Int))) : ∀ f (C C' : List Int), Moved n p C C' → Moved n p (refF near f C) (refF near' f C')
 | 0, _, _, hm => (round_moved hp hs hm hn hq).1
 | f + 1, C, C', hm => by
  obtain ⟨h1, h2⟩ := round_moved hp hs hm hn hq
  obtain ⟨_, h3⟩ := round_moved hp hs h1 hn hq
  rw [refF, refF, h2, h3]
  split
  · exact h1
  · exact ref_moved hp hs hn hq f _ _ h1
end Go.Proofs.YtgfcbmflnldicaaGreat
