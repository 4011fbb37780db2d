/-
  Walk of l03Make (the spec's); fields as data.
-/
import Derived.BigQuiet
import Derived.Deep.DeepCutAuto
import Derived.Deep.DeepMust
import Derived.Deep.DrawnRows
import Derived.Deep.Draws
import Derived.Deep.OwnRows
import Derived.Deep.QuietTactic
import Derived.Deep.RegionHeld3
import Derived.Laws.Rows
import Derived.Lib.Hide
import Derived.Maps.AppendAt
import Derived.StillTailTactics
import Derived.Test.YtgmgpcaahanmiaaProg
import Derived.WalkKit
import Derived.WalkLawsBesides
import Derived.WalkSpells
import Derived.Test.YtgmgpcaahanmiaaZ2
import Derived.Test.YtgmgpcaahanmiaaZ4
set_option linter.unusedVariables false
set_option linter.unusedSimpArgs false
namespace Go.Proofs.Ytgmgpcaahanmiaa
open Go.RowKit

set_option maxRecDepth 100000 in
set_option maxHeartbeats 1600000 in
theorem l03Make_yes (q P : Int) (K : Nat) (w : World) (h2 : 2 ≤ q) (h64 : q ≤ 64) (hpp : split q = (P, (K : Int))) (hs : SizeOk q P K) :
    Calls Try.prog 81 #[.int .i64 q] w fun e w' => ∃ v, e = .returned (.agg #[.int .i64 P, .int .i64 K, v]) ∧ Own w' w.heap.size v (polyAt P K (leastN P K)) ∧ Below w.heap.size w w' := by
  obtain ⟨hN1, hN2, hN3⟩ := leastN_spec hs
  have hPl := hs.lo
  have hPh := hs.hi
  have hK1 := hs.k1
  have hK6 := hs.k6
  have hpow := Lib.hid hs.pow
  have HPP := Lib.hid hpp
  generalize leastN P K = N at hN1 hN2 hN3
  have HN2 := Lib.hid hN2
  have HN3 := hide hN3
  clear hpp hN2 hN3 hs
  go_enter Try.func81, Try.ntmps81
  go_wp2_with fail
  obtain ⟨w0, hw0⟩ : ∃ w0, w0 = w.alloc (.cells #[.int .i64 0, .int .i64 0, .slice none 0 0] 34) := ⟨_, rfl⟩
  have k0 : Blk w0 w.heap.size 34 #[.int .i64 0, .int .i64 0, .slice none 0 0] := by rw [hw0]; exact Blk.new _ _ _ rfl
  have hb0 : Below w.heap.size w w0 := by rw [hw0]; exact (Below.refl _ _).alloc (Nat.le_refl _) _
  rw [← hw0]
  clear hw0
  refine (l03Split_any q w0).mono ?_
  rintro e w1 ⟨rfl, rfl⟩
  rw [HPP.out]
  go_wp2_with fail
  go_loopw [5] (fun nv wr => ∃ n : Nat, nv = .int .i64 n ∧ n ≤ N ∧ Blk wr w.heap.size 34 #[.int .i64 0, .int .i64 0, .slice none 0 0] ∧ Below w.heap.size w wr) (fun nv _ => N - (intOf nv).toNat)
  case atStart => exact ⟨0, rfl, Nat.zero_le _, k0, hb0⟩
  case round =>
    obtain ⟨n, rfl, hnN, kr, hb⟩ := hrel
    have klt := kr.lt
    go_wp2_with fail
    refine (l03Digits_any n P K _ (by omega) (by omega) (by omega) (by omega) (by omega)).mono ?_
    rintro e w2 ⟨v2, rfl, o2, b2⟩
    have hsz2 := b2.size
    go_wp2_with (at_builtin; refine wpList_append_ints rfl (.tmp 17) (.tmp 18) rfl _ v2 (dig n P K) [1] rfl (o2.alloc _) _ 1 1 rfl rfl (Rd.lit1 w2 _) (by rw [dig_len]; simp; omega) (by simp; omega) ?_; intro v3 w3 o3 g3 _)
    have b3 : Below wr.heap.size w2 w3 := Below.step ((Below.refl _ _).alloc hsz2 _) g3 (o2.alloc _) (Nat.le_refl _) (by simp; omega)
    have b13 := b2.trans b3
    have hpl := polyAt_len P K n
    have O3 := Lib.hid o3
    obtain ⟨a3, c3, rfl, r3, _⟩ := o3.form
    refine (l03Irreducible_any a3 c3 (polyAt P K n) P w3 r3 (by omega) (by omega) (polyAt_in hPl K n) (by rw [hpl]; omega) (by rw [hpl, Nat.add_sub_cancel, hpow.out]; exact h64)).mono ?_
    rintro e w4 ⟨rfl, b4⟩
    have b14 := b13.trans (b4.mono b13.size)
    have hb4 := hb.trans (b14.mono hb.size)
    have k4 := kr.below b14 klt
    have o4 := O3.out.below b4 (Nat.le_refl _)
    have HPL := Lib.hid hpl
    clear kr hpl r3 g3 o2 b3 b13 b2 b4 O3
    by_cases hnn : n = N
    · subst hnn
      rw [HN2.out]
      have f0 : w4.cell? ⟨w.heap.size, 0, none⟩ = some (.int .i64 0) := k4.cell 0
      have f1 : w4.cell? ⟨w.heap.size, 1, none⟩ = some (.int .i64 0) := k4.cell 1
      have f2 : w4.cell? ⟨w.heap.size, 2, none⟩ = some (.slice none 0 0) := k4.cell 2
      have g0 := k4.frozen 0
      have g1 := k4.frozen 1
      have g2 := k4.frozen 2
      have hla : (dig n P K ++ [1]).length = (dig n P K).length + 1 := by simp
      rw [hla] at o4
      have O4 := Lib.hid o4
      clear o4 hla o3
      go_wp2
      refine bodyPost_ret (results_cell_row rfl _ _ w.heap.size 34 #[.int .i64 P, .int .i64 K, .slice a3 ((dig n P K).length + 1) c3] (0, 0) _ rfl (((k4.set_ 0 _).set_ 1 _).set_ 2 _) Try.underlying34 rfl (by kernel_rfl)) rfl ⟨_, rfl, ?_, ?_⟩
      · exact (((O4.out.storeBelow (by show w.heap.size < _; omega) _).storeBelow (by show w.heap.size < _; omega) _).storeBelow (by show w.heap.size < _; omega) _).mono (by omega)
      · exact ((hb4.setCell (Nat.le_refl _) _).setCell (Nat.le_refl _) _).setCell (Nat.le_refl _) _
    · have hf := (unhide HN3) n (by omega)
      rw [hf]
      go_wp2
      go_roundw
      case rel => exact ⟨n + 1, by go_num, by omega, k4, hb4⟩
      case measure => simp only [intOf]; omega

/-- The field of a size, as data. -/
def fdOf (q : Int) : FD := ⟨(split q).1, (split q).2.toNat, polyAt (split q).1 (split q).2.toNat (leastN (split q).1 (split q).2.toNat)⟩
theorem fdOf_ok {q : Int} (h : isField q = true) : (fdOf q).Ok ∧ (fdOf q).p ^ (fdOf q).k = q ∧ split q = ((fdOf q).p, ((fdOf q).k : Int)) := by
  obtain ⟨h2, h64, he, k, hk, hs⟩ := isField_size h
  obtain ⟨n1, n2, n3⟩ := leastN_spec hs
  have e : fdOf q = ⟨(split q).1, k, polyAt (split q).1 k (leastN (split q).1 k)⟩ := by rw [fdOf, hk, Int.toNat_natCast]
  rw [e]
  have hp := hs.pow
  refine ⟨⟨hs.lo, hs.hi, hs.k1, hs.k6, by show _ ^ _ ≤ _; rw [hp]; exact h64, polyAt_len _ _ _, polyAt_in hs.lo _ _, ?_, n2⟩, hp, by rw [← hk]⟩
  show nth (polyAt _ _ _) k = 1
  rw [polyAt, nth, List.getD_eq_getElem?_getD, List.getElem?_append_right (by rw [dig_len]; exact Nat.le_refl _), dig_len]
  simp
theorem l03Make_any (q : Int) (w : World) (h : isField q = true) :
    Calls Try.prog 81 #[.int .i64 q] w fun e w' => ∃ v, e = .returned (.agg #[.int .i64 (fdOf q).p, .int .i64 (fdOf q).k, v]) ∧ Own w' w.heap.size v (fdOf q).poly ∧ Below w.heap.size w w' := by
  obtain ⟨h2, h64, he, k, hk, hs⟩ := isField_size h
  have e : fdOf q = ⟨(split q).1, k, polyAt (split q).1 k (leastN (split q).1 k)⟩ := by rw [fdOf, hk, Int.toNat_natCast]
  rw [e]
  exact l03Make_yes q _ k w h2 h64 (by rw [← hk]) hs
theorem mkF_fd {q : Int} (h : isField q = true) : mkF q = ((fdOf q).p, ((fdOf q).k : Int), (fdOf q).poly, 0) := by
  obtain ⟨h2, h64, he, k, hk, hs⟩ := isField_size h
  rw [mkF, if_pos h, fdOf, hk, Int.toNat_natCast]
theorem implMake_any (q : Int) (w : World) (h : isField q = true) :
    Calls Try.prog 110 #[.int .i64 q] w fun e w' => ∃ v, e = .returned (.tuple #[.agg #[.int .i64 (fdOf q).p, .int .i64 (fdOf q).k, v], .int .i64 0]) ∧ Own w' w.heap.size v (fdOf q).poly ∧ Below w.heap.size w w' := by
  have := MakeField_any q w
  rw [mkF_fd h] at this
  exact this
end Go.Proofs.Ytgmgpcaahanmiaa

/-
  Plain mathematics: every element but zero has one inverse.
-/
namespace Go.Proofs.Ytgmgpcaahanmiaa
open Go.RowKit

/-- A field: its size is a power of its prime. -/
structure FD.Good (F : FD) : Prop where
  ok : F.Ok
  spl : split (F.p ^ F.k) = (F.p, (F.k : Int))
theorem smN_cast (f : Nat → Nat) (g : Nat → Int) (h : ∀ i, (f i : Int) = g i) (n : Nat) : (smN f n : Int) = sm g n := by
  induction n with
  | zero => rfl
  | succ n ih => rw [smN, sm, Int.natCast_add, ih, h]
theorem cvN_cast {x y : Nat → Nat} {X Y : Nat → Int} (hx : ∀ i, (x i : Int) = X i) (hy : ∀ i, (y i : Int) = Y i) (m n : Nat) : (cvN x y m n : Int) = cv X Y m n := by
  refine smN_cast _ _ (fun i => ?_) n
  split
  · rw [Int.natCast_mul, hx, hy]
  · rfl
theorem dN_cast {p k a : Nat} (hp : 2 ≤ p) (ha : a < p ^ k) (i : Nat) : (dN p a i : Int) = nth (dig (a : Int) (p : Int) k) i := by
  unfold dN
  by_cases h : i < k
  · rw [dig_nth _ _ h]
    push_cast
    rfl
  · rw [nth_big (by rw [dig_len]; omega), Nat.div_eq_of_lt (Nat.lt_of_lt_of_le ha (Nat.pow_le_pow_right (by omega) (by omega)))]
    simp
/-- Where a product is 1 and a multiple of the polynomial. -/
theorem mul_one_of {F : FD} (ok : F.Ok) (a b : Int) (y : Nat → Int) (h : ∀ m, m < 2 * F.k → Cg F.p (cv (nth (dig a F.p F.k)) (nth (dig b F.p F.k)) m F.k) ((if m = 0 then 1 else 0) + 1 * cv y (nth F.poly) m F.k)) : F.mul a b = 1 := by
  have hp2 := ok.p2
  have hk := ok.k1
  have h1 : F.el 1 := ⟨by omega, by have := pow_mono (p := F.p) (by omega) hk; rw [Int.pow_one] at this; omega⟩
  refine dig_ext (by omega) (mul_el ok _ _) h1 fun j hj => ?_
  rw [mul_digs ok]
  refine (P_lin ok.len 1 (u := fun m => if m = 0 then 1 else 0) (v := fun m => cv y (nth F.poly) m F.k) (fun m hm => h m hm) j).trans ?_
  refine ((Cg.refl F.p _).add ((Cg.refl F.p 1).mul (P_mult hp2 ok.len hk ok.one y F.k (by omega) j))).trans ?_
  rw [P_self (by omega) ok.len (fun i hi => by show (if i = 0 then (1 : Int) else 0) = 0; rw [if_neg (by omega)]) (by omega) hj]
  have := dig_pow (F := F) hp2 (j := 0) hj
  rw [Int.pow_zero] at this
  rw [this, Int.mul_zero, Int.add_zero]
  exact Cg.emod _ _
theorem poly_at {F : FD} (ok : F.Ok) : ∃ N : Nat, (N : Int) < F.p ^ F.k ∧ F.poly = polyAt F.p F.k N := by
  have hin : InR F.p (F.poly.take F.k) := fun x hx => ok.inR x (List.mem_of_mem_take hx)
  have hl : (F.poly.take F.k).length = F.k := by rw [List.length_take, ok.len]; omega
  have hb := num_bound (show 0 < F.p by have := ok.p2; omega) hin
  rw [hl] at hb
  refine ⟨(num F.p (F.poly.take F.k)).toNat, by omega, ?_⟩
  rw [polyAt, show (((num F.p (F.poly.take F.k)).toNat : Nat) : Int) = num F.p (F.poly.take F.k) by omega, dig_num (by have := ok.p2; omega) hin hl]
  have e := take_nth (xs := F.poly) (k := F.k) (by rw [ok.len]; omega)
  rw [ok.one, List.take_of_length_le (by rw [ok.len]; exact Nat.le_refl _)] at e
  exact e
set_option maxRecDepth 10000 in
theorem inv_exists {F : FD} (hG : F.Good) {a : Int} (h1 : 1 ≤ a) (ha : a < F.p ^ F.k) : ∃ b, F.el b ∧ F.mul a b = 1 := by
  have ok := hG.ok
  have hp2 := ok.p2
  have hk := ok.k1
  obtain ⟨p, hp⟩ := Int.eq_ofNat_of_zero_le (show 0 ≤ F.p by omega)
  obtain ⟨a, rfl⟩ := Int.eq_ofNat_of_zero_le (show 0 ≤ a by omega)
  obtain ⟨N, hN, hpoly⟩ := poly_at ok
  have hq : F.p ^ F.k = ((p ^ F.k : Nat) : Int) := by rw [hp]; push_cast; rfl
  have hq64 := ok.q64
  have hspl := hG.spl
  rw [hq] at hspl hN ha hq64
  have hq2 : 2 ≤ p ^ F.k := by
    have := Nat.pow_le_pow_right (n := p) (by omega) hk
    rw [Nat.pow_one] at this
    omega
  have t := invTab_all (p ^ F.k) (by omega) hq2 N (by omega)
  have es : splitN (p ^ F.k) = (F.p, (F.k : Int)) := by
    rw [split, if_pos (inB_yes (by omega) (by omega)), Int.toNat_natCast] at hspl
    exact hspl
  have hirr := ok.irr
  rw [hpoly] at hirr
  simp only [inTab, es, Int.toNat_natCast, hirr, Bool.or_eq_true, beq_iff_eq, Bool.not_true, Bool.false_eq_true, or_false, List.any_eq_true, Bool.and_eq_true] at t
  rcases t with t | ⟨t, ht, e1, e2, e3⟩
  · omega
  · have hc := List.all_eq_true.1 invTab_ok t ht
    obtain ⟨tp, tk, tN, tl⟩ := t
    simp only [] at e1 e2 e3
    obtain rfl : tp = p := by omega
    obtain rfl : tk = F.k := by omega
    simp only [invOk, Bool.and_eq_true, beq_iff_eq, Bool.or_eq_true, bne_iff_ne, List.all_eq_true, List.mem_range] at hc
    obtain ⟨⟨c1, c2⟩, c3⟩ := hc
    have c4 := c3 a (by omega)
    rcases c4 with c4 | c4
    · omega
    · generalize hbq : tl.getD a (0, 0) = bq at c4
      have hmem : bq ∈ tl := by
        rw [← hbq, List.getD_eq_getElem?_getD, List.getElem?_eq_getElem (by omega)]
        exact List.getElem_mem _
      simp only [invAt, Bool.and_eq_true, decide_eq_true_eq, List.all_eq_true, List.mem_range, beq_iff_eq] at c4
      obtain ⟨⟨d1, d2⟩, d3⟩ := c4
      have hdN : ∀ (x : Nat), x < tp ^ F.k → ∀ i, (dN tp x i : Int) = nth (dig (x : Int) F.p F.k) i := fun x hx i => by rw [hp]; exact dN_cast (by omega) hx i
      refine ⟨(bq.1 : Int), ⟨by omega, by rw [hq]; omega⟩, mul_one_of ok _ _ (nth (dig (bq.2 : Int) F.p F.k)) fun m hm => ?_⟩
      have d4 := d3 m hm
      have d5 : Cg F.p ((cvN (dN tp a) (dN tp bq.1) m F.k : Nat) : Int) (((if m = 0 then 1 else 0) + cvN (dN tp bq.2) (polyN tp F.k tN) m F.k : Nat) : Int) := by
        have : ((cvN (dN tp a) (dN tp bq.1) m F.k : Nat) : Int) % F.p = (((if m = 0 then 1 else 0) + cvN (dN tp bq.2) (polyN tp F.k tN) m F.k : Nat) : Int) % F.p := by
          rw [hp]; exact_mod_cast d4
        exact ((Cg.emod F.p _).symm.trans (Cg.of_eq this)).trans (Cg.emod _ _)
      rw [cvN_cast (hdN a (by omega)) (hdN bq.1 d1)] at d5
      refine d5.trans (Cg.of_eq ?_)
      rw [Int.one_mul]
      push_cast
      congr 1
      · split <;> rfl
      · rcases e3 with e3 | e3
        · have z2 : bq.2 = 0 := by
            rcases c2 with c2 | c2
            · exact absurd e3 c2
            · exact c2 bq hmem
          have z : ∀ i, dN tp bq.2 i = 0 := fun i => by rw [z2]; simp [dN]
          have y : ∀ i, nth (dig ((bq.2 : Nat) : Int) F.p F.k) i = 0 := fun i => by rw [← hdN bq.2 d2 i, z i]; rfl
          have l0 : cvN (dN tp bq.2) (polyN tp F.k tN) m F.k = 0 := by
            have := cvN_cast (x := dN tp bq.2) (X := fun _ => 0) (y := polyN tp F.k tN) (Y := fun i => (polyN tp F.k tN i : Int)) (fun i => by rw [z i]; rfl) (fun _ => rfl) m F.k
            have z0 : cv (fun _ => 0) (fun i => (polyN tp F.k tN i : Int)) m F.k = 0 := sm_zero fun i _ => by split <;> simp
            omega
          rw [l0]
          have r0 : cv (nth (dig ((bq.2 : Nat) : Int) F.p F.k)) (nth F.poly) m F.k = 0 := sm_zero fun i _ => by rw [y i]; split <;> simp
          rw [r0]; rfl
        · subst e3
          refine cvN_cast (hdN bq.2 d2) (fun i => ?_) m F.k
          rw [hpoly, polyAt]
          unfold polyN
          rcases Nat.lt_trichotomy i F.k with h | h | h
          · rw [if_neg (by omega), hdN tN (by omega) i, nth, nth, List.getD_eq_getElem?_getD, List.getD_eq_getElem?_getD, List.getElem?_append_left (by rw [dig_len]; exact h)]
          · subst h
            rw [if_pos rfl, nth, List.getD_eq_getElem?_getD, List.getElem?_append_right (by rw [dig_len]; exact Nat.le_refl _), dig_len]
            simp
          · rw [if_neg (by omega), hdN tN (by omega) i, nth_big (by rw [dig_len]; omega), nth_big (by rw [List.length_append, dig_len]; simp; omega)]
theorem inv_unique {F : FD} (ok : F.Ok) {a b c : Int} (ha : F.el a) (hb : F.el b) (hc : F.el c) (h1 : F.mul a b = 1) (h2 : F.mul a c = 1) : b = c := by
  have e1 : F.mul (F.mul b a) c = F.mul b (F.mul a c) := mul_assoc' ok hb ha
  rw [h2, mul_comm' ok b a, h1, one_mul' ok hc, mul_comm' ok b 1, one_mul' ok hb] at e1
  exact e1.symm
end Go.Proofs.Ytgmgpcaahanmiaa

/-
  Plain mathematics: inverses as the tables have them; rows, scaled and reduced.
-/
namespace Go.Proofs.Ytgmgpcaahanmiaa
open Go.RowKit

def FD.inv (F : FD) (a : Int) : Int := ((((List.range F.n).find? (fun (b : Nat) => F.mul a b == 1)).getD 0 : Nat) : Int)
section
variable {F : FD}
theorem FD.Good.el_iff (hG : F.Good) {a : Int} : F.el a ↔ 0 ≤ a ∧ a < F.n := by rw [FD.el, hG.ok.n_eq]
theorem inv_spec (hG : F.Good) {a : Int} (h1 : 1 ≤ a) (ha : a < F.n) : F.mul a (F.inv a) = 1 ∧ 1 ≤ F.inv a ∧ F.inv a < F.n ∧ ∀ b : Nat, (b : Int) < F.inv a → F.mul a b ≠ 1 := by
  have hp2 := hG.ok.p2
  obtain ⟨b, hb, hm⟩ := inv_exists hG h1 (by rw [hG.ok.n_eq]; exact ha)
  rw [hG.el_iff] at hb
  obtain ⟨b, rfl⟩ := Int.eq_ofNat_of_zero_le hb.1
  unfold FD.inv
  cases hf : (List.range F.n).find? (fun (b : Nat) => F.mul a b == 1) with
  | none =>
    rw [List.find?_eq_none] at hf
    have := hf b (List.mem_range.2 (by omega))
    simp [hm] at this
  | some c =>
    rw [Option.getD_some]
    have c1 := List.find?_some hf
    have c2 := List.mem_of_find?_eq_some hf
    rw [List.mem_range] at c2
    rw [List.find?_range_eq_some] at hf
    have c3 : F.mul a c = 1 := by simpa using c1
    refine ⟨c3, ?_, by omega, fun b hb => by have := hf.2.2 b (by omega); simpa using this⟩
    rcases Nat.eq_zero_or_pos c with h0 | h0
    · subst h0
      have z : F.mul a ((0 : Nat) : Int) = 0 := mulF_zero (by omega) hG.ok.len a
      rw [z] at c3
      omega
    · omega
theorem inv_zero (hG : F.Good) : F.inv 0 = 0 := by
  unfold FD.inv
  have : (List.range F.n).find? (fun (b : Nat) => F.mul 0 b == 1) = none := by
    rw [List.find?_eq_none]
    intro b _
    have z : F.mul 0 b = 0 := zero_mulF (by have := hG.ok.p2; omega) hG.ok.len b
    rw [z]; decide
  rw [this]; rfl
theorem inv_el (hG : F.Good) {a : Int} (h0 : 0 ≤ a) (ha : a < F.n) : 0 ≤ F.inv a ∧ F.inv a < F.n := by
  by_cases h : a = 0
  · subst h; rw [inv_zero hG]; have := hG.ok.n_bd; omega
  · have := inv_spec hG (show 1 ≤ a by omega) ha; omega
theorem invIn_other (a : Nat) (z : List Int) (b : Nat) {j : Nat} (h : a ≠ j) : nth (invIn F a z b) j = nth z j := by
  induction b with
  | zero => rfl
  | succ b ih =>
    rw [invIn]
    split
    · rw [nth_set_ne h, ih]
    · exact ih
theorem invIn_self (hG : F.Good) {a : Nat} (ha : a < F.n) (z : List Int) (hz : nth z a = 0) (hzl : z.length = F.n) (b : Nat) (hb : b ≤ F.n) : nth (invIn F a z b) a = if F.inv a < b then F.inv a else 0 := by
  induction b with
  | zero =>
    rw [invIn, hz]
    split
    · have := inv_el hG (a := a) (by omega) (by omega); omega
    · rfl
  | succ b ih =>
    have ih := ih (by omega)
    rw [invIn]
    by_cases h : F.mul a b = 1
    · rw [if_pos h, nth_set_same (by rw [invIn_len, hzl]; exact ha)]
      have ha0 : 1 ≤ a := by
        rcases Nat.eq_zero_or_pos a with h0 | h0
        · subst h0
          have z : F.mul ((0 : Nat) : Int) b = 0 := zero_mulF (by have := hG.ok.p2; omega) hG.ok.len b
          rw [z] at h; omega
        · exact h0
      obtain ⟨s1, s2, s3, s4⟩ := inv_spec hG (a := a) (by omega) (by omega)
      have e : (b : Int) = F.inv a := inv_unique hG.ok (a := a) (hG.el_iff.2 ⟨by omega, by omega⟩) (hG.el_iff.2 ⟨by omega, by omega⟩) (hG.el_iff.2 ⟨by omega, s3⟩) h s1
      rw [if_pos (by omega)]; exact e
    · rw [if_neg h, ih]
      by_cases h2 : F.inv a < b
      · rw [if_pos h2, if_pos (by omega)]
      · rw [if_neg h2]
        by_cases h3 : F.inv a < ((b + 1 : Nat) : Int)
        · rw [if_pos h3]
          by_cases ha0 : a = 0
          · subst ha0
            exact (inv_zero hG).symm
          · obtain ⟨s1, _⟩ := inv_spec hG (a := a) (by omega) (by omega)
            rw [show F.inv a = b by omega] at s1
            exact absurd s1 h
        · rw [if_neg h3]
theorem invTo_at (hG : F.Good) (m : Nat) (hm : m ≤ F.n) (j : Nat) (hj : j < F.n) : nth (invTo F m) j = if j < m then F.inv j else 0 := by
  induction m with
  | zero => rw [invTo, zeros_nth, if_neg (by omega)]
  | succ m ih =>
    have ih := ih (by omega)
    rw [invTo]
    by_cases e : m = j
    · subst e
      rw [if_neg (by omega)] at ih
      have e1 := (inv_el hG (a := (m : Int)) (by omega) (by omega)).2
      rw [invIn_self hG hj _ ih (invTo_len F m) _ (Nat.le_refl _), if_pos e1, if_pos (by omega)]
    · rw [invIn_other _ _ _ e, ih]
      by_cases h : j < m
      · rw [if_pos h, if_pos (by omega)]
      · rw [if_neg h, if_neg (by omega)]
theorem invTo_nth (hG : F.Good) {j : Nat} (hj : j < F.n) : nth (invTo F F.n) j = F.inv j := by
  rw [invTo_at hG _ (Nat.le_refl _) j hj, if_pos hj]
end
end Go.Proofs.Ytgmgpcaahanmiaa

/-
  Walks: size, inverse, scaled and lessened rows: the spec's.
-/
namespace Go.Proofs.Ytgmgpcaahanmiaa
open Go.RowKit
attribute [local go_sem ↓] Go.wp_at_zero Go.wp_at_succ

def scale (F : FD) (c : Int) (xs : List Int) : List Int := xs.map (F.mul c)
def less (F : FD) (v w : List Int) (c : Int) : List Int := (List.range v.length).map fun (i : Nat) => F.sub (nth v i) (F.mul c (nth w i))
theorem scale_len (F : FD) (c : Int) (xs : List Int) : (scale F c xs).length = xs.length := by simp [scale]
theorem less_len (F : FD) (v w : List Int) (c : Int) : (less F v w c).length = v.length := by simp [less]
theorem scale_nth (F : FD) (c : Int) {xs : List Int} {i : Nat} (h : i < xs.length) : nth (scale F c xs) i = F.mul c (nth xs i) := by
  rw [nth_lt (by rw [scale_len]; exact h), nth_lt h]; simp [scale]
theorem less_nth (F : FD) (v w : List Int) (c : Int) {i : Nat} (h : i < v.length) : nth (less F v w c) i = F.sub (nth v i) (F.mul c (nth w i)) := by
  simp [less, nth, h]
def lessTo (F : FD) (v w : List Int) (c : Int) (k : Nat) : List Int := (List.range k).map fun (i : Nat) => F.sub (nth v i) (F.mul c (nth w i))
theorem lessTo_len (F : FD) (v w : List Int) (c : Int) (k : Nat) : (lessTo F v w c k).length = k := by simp [lessTo]
theorem lessTo_succ (F : FD) (v w : List Int) (c : Int) (k : Nat) : lessTo F v w c (k + 1) = lessTo F v w c k ++ [F.sub (nth v k) (F.mul c (nth w k))] := by simp [lessTo, List.range_succ]
theorem scale_take (F : FD) (c : Int) {xs : List Int} {k : Nat} (h : k < xs.length) : scale F c (xs.take (k + 1)) = scale F c (xs.take k) ++ [F.mul c (nth xs k)] := by
  rw [take_nth h]; simp [scale]
theorem mul_bd {F : FD} (ok : F.Ok) (a b : Int) : 0 ≤ F.mul a b ∧ F.mul a b < F.n := by
  have := mul_el ok a b
  rwa [FD.el, ok.n_eq] at this
theorem sub_bd {F : FD} (ok : F.Ok) (a b : Int) : 0 ≤ F.sub a b ∧ F.sub a b < F.n := by
  have := lin_range (show 0 < F.p by have := ok.p2; omega) (-1) F.k a b
  rwa [ok.n_eq] at this
theorem add_bd {F : FD} (ok : F.Ok) (a b : Int) : 0 ≤ F.add a b ∧ F.add a b < F.n := by
  have := lin_range (show 0 < F.p by have := ok.p2; omega) 1 F.k a b
  rwa [ok.n_eq] at this

theorem l03Size_any (g : Nat) (F : FD) (w : World) (hF : PF w g F) (ok : F.Ok) :
    Calls Try.prog 198 #[.pointer (some ⟨g, 0, none⟩)] w fun e w' => e = .returned (.int .i64 F.n) ∧ Below w.heap.size w w' := by
  have hp2 := ok.p2
  have hp64 := ok.p64
  have hk6 := ok.k6
  have hq := ok.q64
  have hpow := fun W => l03Power_any F.p F.k W (by omega) (by omega) (by omega) (by omega)
  rw [ok.n_eq] at hpow
  have HP := hide hpow
  have boxes : ∀ (W : World), Below w.heap.size w W → (Below w.heap.size w W ∧ W.cell? ⟨g, 0, none⟩ = some (.int .i64 F.p) ∧ W.cell? ⟨g, 1, none⟩ = some (.int .i64 F.k)) := fun _ h => ⟨h, (hF.below h).1, (hF.below h).2.1⟩
  have BX := hide boxes
  clear hpow boxes
  go_enter Try.func198, Try.ntmps198
  go_upto_region 1 with fail
  go_region_held3 (fun W => Below w.heap.size w W ∧ W.cell? ⟨g, 0, none⟩ = some (.int .i64 F.p) ∧ W.cell? ⟨g, 1, none⟩ = some (.int .i64 F.k))
    (first | exact (unhide BX) _ (Below.refl _ _) | exact (unhide BX) _ ((Below.refl _ _).drew) | exact (unhide BX) _ (by assumption))
    (first
      | (go_at_call 208; refine (unhide HP _).mono ?_; rintro e W1 ⟨rfl, rfl⟩))
  go_wp2
  go_ret
  exact ⟨rfl, (Below.refl _ _).drew⟩

theorem l03Inverse_any (g : Nat) (F : FD) (a : Int) (w : World) (hF : PF w g F) (hG : F.Good) (h1 : 1 ≤ a) (ha : a < F.n) :
    Calls Try.prog 227 #[.pointer (some ⟨g, 0, none⟩), .int .i64 a] w fun e w' => e = .returned (.int .i64 (F.inv a)) ∧ Below w.heap.size w w' := by
  have ok := hG.ok
  obtain ⟨n2, n64⟩ := ok.n_bd
  obtain ⟨i1, i2, i3, i4⟩ := inv_spec hG h1 ha
  generalize F.inv a = I at i1 i2 i3 i4
  have I1 := Lib.hid i1
  have I4 := hide i4
  clear i1 i4
  go_enter Try.func227, Try.ntmps227
  go_wp2
  go_loopw [5] (fun bv wr => ∃ (b : Nat), bv = .int .i64 b ∧ 1 ≤ b ∧ (b : Int) ≤ I ∧ Below w.heap.size w wr) (fun bv _ => (I - intOf bv).toNat)
  case atStart => exact ⟨1, rfl, by omega, by omega, Below.refl _ _⟩
  case round =>
    obtain ⟨b, rfl, hb1, hb2, hb⟩ := hrel
    have hm := l03Mul_any g F a b wr (hF.below hb) ok (by omega) (by omega) (by omega) (by omega)
    by_cases e : (b : Int) = I
    · have e1 : mulF F.p F.k F.poly a b = 1 := by rw [e]; exact I1.out
      rw [e1] at hm
      have HM := hide hm
      have E := Lib.hid e
      clear hm e e1
      go_wp2_with fail
      refine (unhide HM).mono ?_
      rintro e w1 ⟨rfl, b1⟩
      go_wp2
      go_ret
      exact ⟨ret_int E.out, hb.trans (b1.mono hb.size)⟩
    · have e1 := (unhide I4) b (by omega)
      rw [FD.mul] at e1
      generalize mulF F.p F.k F.poly a b = M at hm e1
      have HM := hide hm
      have e2 : (M != 1) = true := by rw [bne_iff_ne]; exact e1
      clear hm e1
      go_wp2_with fail
      refine (unhide HM).mono ?_
      rintro e w1 ⟨rfl, b1⟩
      go_wp2
      go_roundw
      case rel => exact ⟨b + 1, by go_num, by omega, by omega, hb.trans (b1.mono hb.size)⟩
      case measure => simp only [intOf]; omega

set_option maxHeartbeats 800000 in
theorem l17Scale_any (g : Nat) (F : FD) (a : Option Addr) (c : Nat) (xs : List Int) (s : Int) (w : World) (hF : PF w g F) (ok : F.Ok) (hx : Rd w a xs) (hs0 : 0 ≤ s) (hs1 : s < F.n) (hm : ∀ x ∈ xs, 0 ≤ x ∧ x < F.n) :
    Calls Try.prog 86 #[.pointer (some ⟨g, 0, none⟩), .slice a xs.length c, .int .i64 s] w fun e w' => ∃ v, e = .returned v ∧ Own w' w.heap.size v (scale F s xs) ∧ Below w.heap.size w w' := by
  obtain ⟨n2, n64⟩ := ok.n_bd
  have hxl := hx.len
  go_enter Try.func86, Try.ntmps86
  go_wp2
  go_loopw [7, 8] (fun v iv wr => ∃ (k : Nat), iv = .int .i64 k ∧ k ≤ xs.length ∧ Hid (Own wr w.heap.size v (scale F s (xs.take k))) ∧ Below w.heap.size w wr) (fun _ iv _ => xs.length - (intOf iv).toNat)
  case atStart => exact ⟨0, rfl, Nat.zero_le _, Own.empty w (Nat.le_refl _), (Below.refl _ _).alloc (Nat.le_refl _) _⟩
  case round =>
    obtain ⟨k, rfl, hk, ho, hb⟩ := hrel
    have hsz := hb.size
    by_cases hkl : k < xs.length
    · obtain ⟨b1, o1, rfl, _, hc⟩ := (hx.below hb).at_ (by omega)
      have h1 := hc k hkl
      have hxr := hm _ (nth_mem hkl)
      have hst := scale_take F s hkl
      have hsl : (scale F s (xs.take k)).length = k := by rw [scale_len, List.length_take]; omega
      generalize nth xs k = x at h1 hxr hst
      have hmul := fun W h => l03Mul_any g F x s W h ok hxr.1 (by omega) hs0 (by omega)
      have hcm : mulF F.p F.k F.poly x s = F.mul s x := mul_comm' ok x s
      rw [hcm] at hmul
      generalize F.mul s x = M at hmul hst
      have HMUL := hide hmul
      have HST := Lib.hid hst
      have HSL := Lib.hid hsl
      clear hc hmul hcm hst hsl hm hx
      go_wp2_with fail
      refine (unhide HMUL _ (hF.below hb)).mono ?_
      rintro e w1 ⟨rfl, b1⟩
      have o1 := ho.out.below b1 (Nat.le_refl _)
      have hs1 := b1.size
      have hb1 := hb.trans (b1.mono hsz)
      go_wp2_with (at_builtin; refine wpList_append_ints rfl (.tmp 16) (.tmp 24) rfl w.heap.size u7 (scale F s (xs.take k)) [M] rfl (o1.alloc _) _ 1 1 rfl rfl (Rd.one w1 M _) (by rw [HSL.out]; simp; omega) (by simp; omega) ?_; intro v2 w2 o2 g2 _)
      go_roundw
      case rel => exact ⟨k + 1, by go_num, by omega, by show Own _ _ _ _; rw [HST.out]; exact o2, Below.step (hb1.alloc (by omega) _) g2 (o1.alloc _) (Nat.le_refl _) (by simp; omega)⟩
      case measure => simp only [intOf]; omega
    · have hke : k = xs.length := by omega
      have HE := Lib.hid hke
      clear hke
      go_wp2
      go_ret
      exact ⟨_, rfl, by have o := ho.out; rw [HE.out, List.take_length] at o; exact o, hb⟩
end Go.Proofs.Ytgmgpcaahanmiaa

