/-
  Texts joined.
-/
import Derived.Laws.Rows
import Derived.Test.YtkiljcbejmiioaaGreatLK1
import Derived.Test.YtkiljcbejmiioaaGreatLK3
set_option linter.unusedVariables false
set_option linter.unusedSimpArgs false
set_option maxRecDepth 100000
set_option maxHeartbeats 40000000
namespace Go.Proofs.YtkiljcbejmiioaaGreat
open Go.RowKit
theorem l03Make_yes (q P : Int) (K : Nat) (w : World) (h2 : 2 ≤ q) (h64 : q ≤ 64) (hpp : split q = (P, (K : Int))) (hs : SizeOk q P K) :
    Calls Tryz.prog 24 #[.int .i64 q] w fun e w' => ∃ v, e = .returned (.agg #[.int .i64 P, .int .i64 K, v]) ∧ Own w' w.heap.size v (polyAt P K (leastN P K)) ∧ Below w.heap.size w w' := by
 obtain ⟨hN1, hN2, hN3⟩ := leastN_spec hs
 have hPl := hs.lo
 have hPh := hs.hi
 have hK1 := hs.k1
 have hK6 := hs.k6
 have hpow := Lib.hid hs.pow
 have HPP := Lib.hid hpp
 generalize leastN P K = N at hN1 hN2 hN3
 have HN2 := Lib.hid hN2
 have HN3 := hide hN3
 clear hpp hN2 hN3 hs
 go_enter Tryz.func24, Tryz.ntmps24
 go_wp2_with fail
 obtain ⟨w0, hw0⟩ : ∃ w0, w0 = w.alloc (.cells #[.int .i64 0, .int .i64 0, .slice none 0 0] 30) := ⟨_, rfl⟩
 have k0 : Blk w0 w.heap.size 30 #[.int .i64 0, .int .i64 0, .slice none 0 0] := by rw [hw0]; exact Blk.new _ _ _ rfl
 have hb0 : Below w.heap.size w w0 := by rw [hw0]; exact (Below.refl _ _).alloc (Nat.le_refl _) _
 rw [← hw0]
 clear hw0
 refine (l03Split_any q w0).mono ?_
 rintro e w1 ⟨rfl, rfl⟩
 rw [HPP.out]
 go_wp2_with fail
 go_loopw [5] (fun nv wr => ∃ n : Nat, nv = .int .i64 n ∧ n ≤ N ∧ Blk wr w.heap.size 30 #[.int .i64 0, .int .i64 0, .slice none 0 0] ∧ Below w.heap.size w wr) (fun nv _ => N - (intOf nv).toNat)
 case atStart => exact ⟨0, rfl, Nat.zero_le _, k0, hb0⟩
 case round =>
  obtain ⟨n, rfl, hnN, kr, hb⟩ := hrel
  have klt := kr.lt
  go_wp2_with fail
  refine (l03Digits_any n P K _ (by omega) (by omega) (by omega) (by omega) (by omega)).mono ?_
  rintro e w2 ⟨v2, rfl, o2, b2⟩
  have hsz2 := b2.size
  go_wp2_with (at_builtin; refine wpList_append_ints rfl (.tmp 17) (.tmp 18) rfl _ v2 (dig n P K) [1] rfl (o2.alloc _) _ 1 1 rfl rfl (Rd.lit1 w2 _) (by rw [dig_len]; simp; omega) (by simp; omega) ?_; intro v3 w3 o3 g3 _)
  have b3 : Below wr.heap.size w2 w3 := Below.step ((Below.refl _ _).alloc hsz2 _) g3 (o2.alloc _) (Nat.le_refl _) (by simp; omega)
  have b13 := b2.trans b3
  have hpl := polyAt_len P K n
  have O3 := Lib.hid o3
  obtain ⟨a3, c3, rfl, r3, _⟩ := o3.form
  refine (l03Irreducible_any a3 c3 (polyAt P K n) P w3 r3 (by omega) (by omega) (polyAt_in hPl K n) (by rw [hpl]; omega) (by rw [hpl, Nat.add_sub_cancel, hpow.out]; exact h64)).mono ?_
  rintro e w4 ⟨rfl, b4⟩
  have b14 := b13.trans (b4.mono b13.size)
  have hb4 := hb.trans (b14.mono hb.size)
  have k4 := kr.below b14 klt
  have o4 := O3.out.below b4 (Nat.le_refl _)
  have HPL := Lib.hid hpl
  clear kr hpl r3 g3 o2 b3 b13 b2 b4 O3
  by_cases hnn : n = N
  · subst hnn
    rw [HN2.out]
    have f0 : w4.cell? ⟨w.heap.size, 0, none⟩ = some (.int .i64 0) := k4.cell 0
    have f1 : w4.cell? ⟨w.heap.size, 1, none⟩ = some (.int .i64 0) := k4.cell 1
    have f2 : w4.cell? ⟨w.heap.size, 2, none⟩ = some (.slice none 0 0) := k4.cell 2
    have g0 := k4.frozen 0
    have g1 := k4.frozen 1
    have g2 := k4.frozen 2
    have hla : (dig n P K ++ [1]).length = (dig n P K).length + 1 := by simp
    rw [hla] at o4
    have O4 := Lib.hid o4
    clear o4 hla o3
    go_wp2
    refine bodyPost_ret (results_cell_row rfl _ _ w.heap.size 30 #[.int .i64 P, .int .i64 K, .slice a3 ((dig n P K).length + 1) c3] (0, 0) _ rfl (((k4.set_ 0 _).set_ 1 _).set_ 2 _) Tryz.underlying30 rfl (by kernel_rfl)) rfl ⟨_, rfl, ?_, ?_⟩
    · exact (((O4.out.storeBelow (by show w.heap.size < _; omega) _).storeBelow (by show w.heap.size < _; omega) _).storeBelow (by show w.heap.size < _; omega) _).mono (by omega)
    · exact ((hb4.setCell (Nat.le_refl _) _).setCell (Nat.le_refl _) _).setCell (Nat.le_refl _) _
  · have hf := (unhide HN3) n (by omega)
    rw [hf]
    go_wp2
    go_roundw
    case rel => exact ⟨n + 1, by go_num, by omega, k4, hb4⟩
    case measure => simp only [intOf]; omega
def fdOf (q : Int) : FD := ⟨(split q).1, (split q).2.toNat, polyAt (split q).1 (split q).2.toNat (leastN (split q).1 (split q).2.toNat)⟩
theorem fdOf_ok {q : Int} (h : isField q = true) : (fdOf q).Ok ∧ (fdOf q).p ^ (fdOf q).k = q ∧ split q = ((fdOf q).p, ((fdOf q).k : Int)) := by
 obtain ⟨h2, h64, he, k, hk, hs⟩ := isField_size h
 obtain ⟨n1, n2, n3⟩ := leastN_spec hs
 have e : fdOf q = ⟨(split q).1, k, polyAt (split q).1 k (leastN (split q).1 k)⟩ := by rw [fdOf, hk, Int.toNat_natCast]
 rw [e]
 have hp := hs.pow
 refine ⟨⟨hs.lo, hs.hi, hs.k1, hs.k6, by show _ ^ _ ≤ _; rw [hp]; exact h64, polyAt_len _ _ _, polyAt_in hs.lo _ _, ?_, n2⟩, hp, by rw [← hk]⟩
 show nth (polyAt _ _ _) k = 1
 rw [polyAt, nth, List.getD_eq_getElem?_getD, List.getElem?_append_right (by rw [dig_len]; exact Nat.le_refl _), dig_len]
 simp
theorem l03Make_any (q : Int) (w : World) (h : isField q = true) :
    Calls Tryz.prog 24 #[.int .i64 q] w fun e w' => ∃ v, e = .returned (.agg #[.int .i64 (fdOf q).p, .int .i64 (fdOf q).k, v]) ∧ Own w' w.heap.size v (fdOf q).poly ∧ Below w.heap.size w w' := by
 obtain ⟨h2, h64, he, k, hk, hs⟩ := isField_size h
 have e : fdOf q = ⟨(split q).1, k, polyAt (split q).1 k (leastN (split q).1 k)⟩ := by rw [fdOf, hk, Int.toNat_natCast]
 rw [e]
 exact l03Make_yes q _ k w h2 h64 (by rw [← hk]) hs
end Go.Proofs.YtkiljcbejmiioaaGreat
namespace Go.Proofs.YtkiljcbejmiioaaGreat
open Go.RowKit
attribute [local go_sem ↓] Go.wp_at_zero Go.wp_at_succ
def hst (F : FD) (x v c : Int) : Int := lin 1 F.p F.k (mulF F.p F.k F.poly v x) c
end Go.Proofs.YtkiljcbejmiioaaGreat
namespace Go.Proofs.YtkiljcbejmiioaaGreat
open Go.RowKit
structure FD.Good (F : FD) : Prop where
 ok : F.Ok
 spl : split (F.p ^ F.k) = (F.p, (F.k : Int))
theorem smN_cast (f : Nat → Nat) (g : Nat → Int) (h : ∀ i, (f i : Int) = g i) (n : Nat) : (smN f n : Int) = sm g n := by
 induction n with
 | zero => rfl
 | succ n ih => rw [smN, sm, Int.natCast_add, ih, h]
theorem cvN_cast {x y : Nat → Nat} {X Y : Nat → Int} (hx : ∀ i, (x i : Int) = X i) (hy : ∀ i, (y i : Int) = Y i) (m n : Nat) : (cvN x y m n : Int) = cv X Y m n := by
 refine smN_cast _ _ (fun i => ?_) n
 split
 · rw [Int.natCast_mul, hx, hy]
 · rfl
theorem dN_cast {p k a : Nat} (hp : 2 ≤ p) (ha : a < p ^ k) (i : Nat) : (dN p a i : Int) = nth (dig (a : Int) (p : Int) k) i := by
 unfold dN
 by_cases h : i < k
 · rw [dig_nth _ _ h]
   push_cast
   rfl
 · rw [nth_big (by rw [dig_len]; omega), Nat.div_eq_of_lt (Nat.lt_of_lt_of_le ha (Nat.pow_le_pow_right (by omega) (by omega)))]
   simp
theorem mul_one_of {F : FD} (ok : F.Ok) (a b : Int) (y : Nat → Int) (h : ∀ m, m < 2 * F.k → Cg F.p (cv (nth (dig a F.p F.k)) (nth (dig b F.p F.k)) m F.k) ((if m = 0 then 1 else 0) + 1 * cv y (nth F.poly) m F.k)) : F.mul a b = 1 := by
 have hp2 := ok.p2
 have hk := ok.k1
 have h1 : F.el 1 := ⟨by omega, by have := pow_mono (p := F.p) (by omega) hk; rw [Int.pow_one] at this; omega⟩
 refine dig_ext (by omega) (mul_el ok _ _) h1 fun j hj => ?_
 rw [mul_digs ok]
 refine (P_lin ok.len 1 (u := fun m => if m = 0 then 1 else 0) (v := fun m => cv y (nth F.poly) m F.k) (fun m hm => h m hm) j).trans ?_
 refine ((Cg.refl F.p _).add ((Cg.refl F.p 1).mul (P_mult hp2 ok.len hk ok.one y F.k (by omega) j))).trans ?_
 rw [P_self (by omega) ok.len (fun i hi => by show (if i = 0 then (1 : Int) else 0) = 0; rw [if_neg (by omega)]) (by omega) hj]
 have := dig_pow (F := F) hp2 (j := 0) hj
 rw [Int.pow_zero] at this
 rw [this, Int.mul_zero, Int.add_zero]
 exact Cg.emod _ _
theorem poly_at {F : FD} (ok : F.Ok) : ∃ N : Nat, (N : Int) < F.p ^ F.k ∧ F.poly = polyAt F.p F.k N := by
 have hin : InR F.p (F.poly.take F.k) := fun x hx => ok.inR x (List.mem_of_mem_take hx)
 have hl : (F.poly.take F.k).length = F.k := by rw [List.length_take, ok.len]; omega
 have hb := num_bound (show 0 < F.p by have := ok.p2; omega) hin
 rw [hl] at hb
 refine ⟨(num F.p (F.poly.take F.k)).toNat, by omega, ?_⟩
 rw [polyAt, show (((num F.p (F.poly.take F.k)).toNat : Nat) : Int) = num F.p (F.poly.take F.k) by omega, dig_num (by have := ok.p2; omega) hin hl]
 have e := take_nth (xs := F.poly) (k := F.k) (by rw [ok.len]; omega)
 rw [ok.one, List.take_of_length_le (by rw [ok.len]; exact Nat.le_refl _)] at e
 exact e
theorem inv_exists {F : FD} (hG : F.Good) {a : Int} (h1 : 1 ≤ a) (ha : a < F.p ^ F.k) : ∃ b, F.el b ∧ F.mul a b = 1 := by
 have ok := hG.ok
 have hp2 := ok.p2
 have hk := ok.k1
 obtain ⟨p, hp⟩ := Int.eq_ofNat_of_zero_le (show 0 ≤ F.p by omega)
 obtain ⟨a, rfl⟩ := Int.eq_ofNat_of_zero_le (show 0 ≤ a by omega)
 obtain ⟨N, hN, hpoly⟩ := poly_at ok
 have hq : F.p ^ F.k = ((p ^ F.k : Nat) : Int) := by rw [hp]; push_cast; rfl
 have hq64 := ok.q64
 have hspl := hG.spl
 rw [hq] at hspl hN ha hq64
 have hq2 : 2 ≤ p ^ F.k := by
  have := Nat.pow_le_pow_right (n := p) (by omega) hk
  rw [Nat.pow_one] at this
  omega
 have t := invTab_all (p ^ F.k) (by omega) hq2 N (by omega)
 have es : splitN (p ^ F.k) = (F.p, (F.k : Int)) := by
  rw [split, if_pos (inB_yes (by omega) (by omega)), Int.toNat_natCast] at hspl
  exact hspl
 have hirr := ok.irr
 rw [hpoly] at hirr
 simp only [inTab, es, Int.toNat_natCast, hirr, Bool.or_eq_true, beq_iff_eq, Bool.not_true, Bool.false_eq_true, or_false, List.any_eq_true, Bool.and_eq_true] at t
 rcases t with t | ⟨t, ht, e1, e2, e3⟩
 · omega
 · have hc := List.all_eq_true.1 invTab_ok t ht
   obtain ⟨tp, tk, tN, tl⟩ := t
   simp only [] at e1 e2 e3
   obtain rfl : tp = p := by omega
   obtain rfl : tk = F.k := by omega
   simp only [invOk, Bool.and_eq_true, beq_iff_eq, Bool.or_eq_true, bne_iff_ne, List.all_eq_true, List.mem_range] at hc
   obtain ⟨⟨c1, c2⟩, c3⟩ := hc
   have c4 := c3 a (by omega)
   rcases c4 with c4 | c4
   · omega
   · generalize hbq : tl.getD a (0, 0) = bq at c4
     have hmem : bq ∈ tl := by
      rw [← hbq, List.getD_eq_getElem?_getD, List.getElem?_eq_getElem (by omega)]
      exact List.getElem_mem _
     simp only [invAt, Bool.and_eq_true, decide_eq_true_eq, List.all_eq_true, List.mem_range, beq_iff_eq] at c4
     obtain ⟨⟨d1, d2⟩, d3⟩ := c4
     have hdN : ∀ (x : Nat), x < tp ^ F.k → ∀ i, (dN tp x i : Int) = nth (dig (x : Int) F.p F.k) i := fun x hx i => by rw [hp]; exact dN_cast (by omega) hx i
     refine ⟨(bq.1 : Int), ⟨by omega, by rw [hq]; omega⟩, mul_one_of ok _ _ (nth (dig (bq.2 : Int) F.p F.k)) fun m hm => ?_⟩
     have d4 := d3 m hm
     have d5 : Cg F.p ((cvN (dN tp a) (dN tp bq.1) m F.k : Nat) : Int) (((if m = 0 then 1 else 0) + cvN (dN tp bq.2) (polyN tp F.k tN) m F.k : Nat) : Int) := by
      have : ((cvN (dN tp a) (dN tp bq.1) m F.k : Nat) : Int) % F.p = (((if m = 0 then 1 else 0) + cvN (dN tp bq.2) (polyN tp F.k tN) m F.k : Nat) : Int) % F.p := by
       rw [hp]; exact_mod_cast d4
      exact ((Cg.emod F.p _).symm.trans (Cg.of_eq this)).trans (Cg.emod _ _)
     rw [cvN_cast (hdN a (by omega)) (hdN bq.1 d1)] at d5
     refine d5.trans (Cg.of_eq ?_)
     rw [Int.one_mul]
     push_cast
     congr 1
     · split <;> rfl
     · rcases e3 with e3 | e3
       · have z2 : bq.2 = 0 := by
           rcases c2 with c2 | c2
           · exact absurd e3 c2
           · exact c2 bq hmem
         have z : ∀ i, dN tp bq.2 i = 0 := fun i => by rw [z2]; simp [dN]
         have y : ∀ i, nth (dig ((bq.2 : Nat) : Int) F.p F.k) i = 0 := fun i => by rw [← hdN bq.2 d2 i, z i]; rfl
         have l0 : cvN (dN tp bq.2) (polyN tp F.k tN) m F.k = 0 := by
          have := cvN_cast (x := dN tp bq.2) (X := fun _ => 0) (y := polyN tp F.k tN) (Y := fun i => (polyN tp F.k tN i : Int)) (fun i => by rw [z i]; rfl) (fun _ => rfl) m F.k
          have z0 : cv (fun _ => 0) (fun i => (polyN tp F.k tN i : Int)) m F.k = 0 := sm_zero fun i _ => by split <;> simp
          omega
         rw [l0]
         have r0 : cv (nth (dig ((bq.2 : Nat) : Int) F.p F.k)) (nth F.poly) m F.k = 0 := sm_zero fun i _ => by rw [y i]; split <;> simp
         rw [r0]; rfl
       · subst e3
         refine cvN_cast (hdN bq.2 d2) (fun i => ?_) m F.k
         rw [hpoly, polyAt]
         unfold polyN
         rcases Nat.lt_trichotomy i F.k with h | h | h
         · rw [if_neg (by omega), hdN tN (by omega) i, nth, nth, List.getD_eq_getElem?_getD, List.getD_eq_getElem?_getD, List.getElem?_append_left (by rw [dig_len]; exact h)]
         · subst h
           rw [if_pos rfl, nth, List.getD_eq_getElem?_getD, List.getElem?_append_right (by rw [dig_len]; exact Nat.le_refl _), dig_len]
           simp
         · rw [if_neg (by omega), hdN tN (by omega) i, nth_big (by rw [dig_len]; omega), nth_big (by rw [List.length_append, dig_len]; simp; omega)]
theorem inv_unique {F : FD} (ok : F.Ok) {a b c : Int} (ha : F.el a) (hb : F.el b) (hc : F.el c) (h1 : F.mul a b = 1) (h2 : F.mul a c = 1) : b = c := by
 have e1 : F.mul (F.mul b a) c = F.mul b (F.mul a c) := mul_assoc' ok hb ha
 rw [h2, mul_comm' ok b a, h1, one_mul' ok hc, mul_comm' ok b 1, one_mul' ok hb] at e1
 exact e1.symm
end Go.Proofs.YtkiljcbejmiioaaGreat
namespace Go.Proofs.YtkiljcbejmiioaaGreat
open Go.RowKit
def FD.inv (F : FD) (a : Int) : Int := ((((List.range F.n).find? (fun (b : Nat) => F.mul a b == 1)).getD 0 : Nat) : Int)
section
variable {F : FD}
theorem FD.Good.el_iff (hG : F.Good) {a : Int} : F.el a ↔ 0 ≤ a ∧ a < F.n := by rw [FD.el, hG.ok.n_eq]
theorem inv_spec (hG : F.Good) {a : Int} (h1 : 1 ≤ a) (ha : a < F.n) : F.mul a (F.inv a) = 1 ∧ 1 ≤ F.inv a ∧ F.inv a < F.n ∧ ∀ b : Nat, (b : Int) < F.inv a → F.mul a b ≠ 1 := by
 have hp2 := hG.ok.p2
 obtain ⟨b, hb, hm⟩ := inv_exists hG h1 (by rw [hG.ok.n_eq]; exact ha)
 rw [hG.el_iff] at hb
 obtain ⟨b, rfl⟩ := Int.eq_ofNat_of_zero_le hb.1
 unfold FD.inv
 cases hf : (List.range F.n).find? (fun (b : Nat) => F.mul a b == 1) with
 | none =>
  rw [List.find?_eq_none] at hf
  have := hf b (List.mem_range.2 (by omega))
  simp [hm] at this
 | some c =>
  rw [Option.getD_some]
  have c1 := List.find?_some hf
  have c2 := List.mem_of_find?_eq_some hf
  rw [List.mem_range] at c2
  rw [List.find?_range_eq_some] at hf
  have c3 : F.mul a c = 1 := by simpa using c1
  refine ⟨c3, ?_, by omega, fun b hb => by have := hf.2.2 b (by omega); simpa using this⟩
  rcases Nat.eq_zero_or_pos c with h0 | h0
  · subst h0
    have z : F.mul a ((0 : Nat) : Int) = 0 := mulF_zero (by omega) hG.ok.len a
    rw [z] at c3
    omega
  · omega
theorem inv_zero (hG : F.Good) : F.inv 0 = 0 := by
 unfold FD.inv
 have : (List.range F.n).find? (fun (b : Nat) => F.mul 0 b == 1) = none := by
  rw [List.find?_eq_none]
  intro b _
  have z : F.mul 0 b = 0 := zero_mulF (by have := hG.ok.p2; omega) hG.ok.len b
  rw [z]; decide
 rw [this]; rfl
theorem inv_el (hG : F.Good) {a : Int} (h0 : 0 ≤ a) (ha : a < F.n) : 0 ≤ F.inv a ∧ F.inv a < F.n := by
 by_cases h : a = 0
 · subst h; rw [inv_zero hG]; have := hG.ok.n_bd; omega
 · have := inv_spec hG (show 1 ≤ a by omega) ha; omega
theorem invIn_other (a : Nat) (z : List Int) (b : Nat) {j : Nat} (h : a ≠ j) : nth (invIn F a z b) j = nth z j := by
 induction b with
 | zero => rfl
 | succ b ih =>
  rw [invIn]
  split
  · rw [nth_set_ne h, ih]
  · exact ih
theorem invIn_self (hG : F.Good) {a : Nat} (ha : a < F.n) (z : List Int) (hz : nth z a = 0) (hzl : z.length = F.n) (b : Nat) (hb : b ≤ F.n) : nth (invIn F a z b) a = if F.inv a < b then F.inv a else 0 := by
 induction b with
 | zero =>
  rw [invIn, hz]
  split
  · have := inv_el hG (a := a) (by omega) (by omega); omega
  · rfl
 | succ b ih =>
  have ih := ih (by omega)
  rw [invIn]
  by_cases h : F.mul a b = 1
  · rw [if_pos h, nth_set_same (by rw [invIn_len, hzl]; exact ha)]
    have ha0 : 1 ≤ a := by
     rcases Nat.eq_zero_or_pos a with h0 | h0
     · subst h0
       have z : F.mul ((0 : Nat) : Int) b = 0 := zero_mulF (by have := hG.ok.p2; omega) hG.ok.len b
       rw [z] at h; omega
     · exact h0
    obtain ⟨s1, s2, s3, s4⟩ := inv_spec hG (a := a) (by omega) (by omega)
    have e : (b : Int) = F.inv a := inv_unique hG.ok (a := a) (hG.el_iff.2 ⟨by omega, by omega⟩) (hG.el_iff.2 ⟨by omega, by omega⟩) (hG.el_iff.2 ⟨by omega, s3⟩) h s1
    rw [if_pos (by omega)]; exact e
  · rw [if_neg h, ih]
    by_cases h2 : F.inv a < b
    · rw [if_pos h2, if_pos (by omega)]
    · rw [if_neg h2]
      by_cases h3 : F.inv a < ((b + 1 : Nat) : Int)
      · rw [if_pos h3]
        by_cases ha0 : a = 0
        · subst ha0
          exact (inv_zero hG).symm
        · obtain ⟨s1, _⟩ := inv_spec hG (a := a) (by omega) (by omega)
          rw [show F.inv a = b by omega] at s1
          exact absurd s1 h
      · rw [if_neg h3]
theorem invTo_at (hG : F.Good) (m : Nat) (hm : m ≤ F.n) (j : Nat) (hj : j < F.n) : nth (invTo F m) j = if j < m then F.inv j else 0 := by
 induction m with
 | zero => rw [invTo, zeros_nth, if_neg (by omega)]
 | succ m ih =>
  have ih := ih (by omega)
  rw [invTo]
  by_cases e : m = j
  · subst e
    rw [if_neg (by omega)] at ih
    have e1 := (inv_el hG (a := (m : Int)) (by omega) (by omega)).2
    rw [invIn_self hG hj _ ih (invTo_len F m) _ (Nat.le_refl _), if_pos e1, if_pos (by omega)]
  · rw [invIn_other _ _ _ e, ih]
    by_cases h : j < m
    · rw [if_pos h, if_pos (by omega)]
    · rw [if_neg h, if_neg (by omega)]
theorem invTo_nth (hG : F.Good) {j : Nat} (hj : j < F.n) : nth (invTo F F.n) j = F.inv j := by
 rw [invTo_at hG _ (Nat.le_refl _) j hj, if_pos hj]
end
end Go.Proofs.YtkiljcbejmiioaaGreat
namespace Go.Proofs.YtkiljcbejmiioaaGreat
open Go.RowKit
section
variable {F : FD}
def FD.D (F : FD) (a : Int) (i : Nat) : Int := nth (dig a F.p F.k) i
theorem el_ext (ok : F.Ok) {x y : Int} (hx : F.el x) (hy : F.el y) (h : ∀ i, i < F.k → Cg F.p (F.D x i) (F.D y i)) : x = y := dig_ext (by have := ok.p2; omega) hx hy h
theorem D_lin (ok : F.Ok) (s a b : Int) {i : Nat} (hi : i < F.k) : Cg F.p (F.D (lin s F.p F.k a b) i) (F.D a i + s * F.D b i) := lin_cg (by have := ok.p2; omega) s F.k a b hi
theorem lin_el (ok : F.Ok) (s a b : Int) : F.el (lin s F.p F.k a b) := lin_range (by have := ok.p2; omega) s F.k a b
theorem D_zero (F : FD) {i : Nat} (hi : i < F.k) : F.D 0 i = 0 := dig_zero_nth F.p hi
theorem zero_el (ok : F.Ok) : F.el 0 := ⟨Int.le_refl _, by rw [ok.n_eq]; have := ok.n_bd; omega⟩
theorem D_lin2 (ok : F.Ok) {s a b u v : Int} {i : Nat} (hi : i < F.k) (ha : Cg F.p (F.D a i) u) (hb : Cg F.p (F.D b i) v) : Cg F.p (F.D (lin s F.p F.k a b) i) (u + s * v) :=
 (D_lin ok s a b hi).trans (ha.add ((Cg.refl _ s).mul hb))
theorem lin_eq (ok : F.Ok) {x y : Int} {f g : Nat → Int} (hx : F.el x) (hy : F.el y) (h1 : ∀ i, i < F.k → Cg F.p (F.D x i) (f i)) (h2 : ∀ i, i < F.k → Cg F.p (F.D y i) (g i)) (h : ∀ i, f i = g i) : x = y :=
 el_ext ok hx hy fun i hi => (h1 i hi).trans ((Cg.of_eq (h i)).trans (h2 i hi).symm)
theorem add_comm' (ok : F.Ok) (a b : Int) : F.add a b = F.add b a :=
 lin_eq ok (lin_el ok _ _ _) (lin_el ok _ _ _) (fun i hi => D_lin ok _ _ _ hi) (fun i hi => D_lin ok _ _ _ hi) fun i => by omega
theorem add_assoc' (ok : F.Ok) (a b c : Int) : F.add (F.add a b) c = F.add a (F.add b c) :=
 lin_eq ok (lin_el ok _ _ _) (lin_el ok _ _ _) (fun i hi => D_lin2 ok hi (D_lin ok _ _ _ hi) (Cg.refl _ _)) (fun i hi => D_lin2 ok hi (Cg.refl _ _) (D_lin ok _ _ _ hi)) fun i => by omega
theorem add_zero' (ok : F.Ok) {a : Int} (ha : F.el a) : F.add a 0 = a := lin_zero (by have := ok.p2; omega) 1 ha
theorem sub_zero_el (ok : F.Ok) {a : Int} (ha : F.el a) : F.sub a 0 = a := lin_zero (by have := ok.p2; omega) (-1) ha
theorem zero_add' (ok : F.Ok) {a : Int} (ha : F.el a) : F.add 0 a = a := by rw [add_comm' ok, add_zero' ok ha]
theorem sub_self' (ok : F.Ok) (a : Int) : F.sub a a = 0 :=
 lin_eq ok (lin_el ok _ _ _) (zero_el ok) (fun i hi => D_lin ok _ _ _ hi) (fun i hi => Cg.of_eq (D_zero F hi)) fun i => by omega
theorem eq_of_sub (ok : F.Ok) {a b : Int} (ha : F.el a) (hb : F.el b) (h : F.sub a b = 0) : a = b := by
 refine el_ext ok ha hb fun i hi => ?_
 have h1 := D_lin ok (-1) a b hi
 have h2 : F.D (lin (-1) F.p F.k a b) i = 0 := by
  show F.D (F.sub a b) i = 0
  rw [h, D_zero F hi]
 rw [h2] at h1
 have h3 := h1.add (Cg.refl F.p (F.D b i))
 refine (Cg.of_eq ?_).trans (h3.symm.trans (Cg.of_eq ?_)) <;> omega
theorem mul_zero_all (ok : F.Ok) (a : Int) : F.mul a 0 = 0 := mulF_zero (by have := ok.p2; omega) ok.len a
theorem zero_mul_all (ok : F.Ok) (a : Int) : F.mul 0 a = 0 := zero_mulF (by have := ok.p2; omega) ok.len a
theorem mul_add' (ok : F.Ok) (a b c : Int) : F.mul a (F.add b c) = F.add (F.mul a b) (F.mul a c) := mul_lin ok a 1 b c
theorem add_mul' (ok : F.Ok) (a b c : Int) : F.mul (F.add a b) c = F.add (F.mul a c) (F.mul b c) := mul_lin' ok c 1 a b
theorem mul_red (ok : F.Ok) (a b : Int) : F.mul (F.add a 0) b = F.mul a b := by rw [add_mul' ok, zero_mul_all ok, add_zero' ok (mul_el ok a b)]
theorem mul_red2 (ok : F.Ok) (a b : Int) : F.mul b (F.add a 0) = F.mul b a := by rw [mul_comm' ok, mul_red ok, mul_comm' ok]
theorem mul_assoc_all (ok : F.Ok) (a b c : Int) : F.mul (F.mul a b) c = F.mul a (F.mul b c) := by
 have h := mul_assoc' ok (a := F.add a 0) (b := F.add b 0) (c := c) (lin_el ok _ _ _) (lin_el ok _ _ _)
 rw [mul_red ok, mul_red2 ok, mul_red ok, mul_red ok] at h
 exact h
theorem el_n (ok : F.Ok) {a : Int} : F.el a ↔ 0 ≤ a ∧ a < F.n := by rw [FD.el, ok.n_eq]
end
end Go.Proofs.YtkiljcbejmiioaaGreat
