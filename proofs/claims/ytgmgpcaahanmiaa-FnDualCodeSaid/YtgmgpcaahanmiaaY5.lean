/-
  Texts joined.
-/
import Derived.Laws.Rows
import Derived.Test.YtgmgpcaahanmiaaY1
import Derived.Test.YtgmgpcaahanmiaaY3
import Derived.Test.YtgmgpcaahanmiaaY4
set_option linter.unusedVariables false
set_option linter.unusedSimpArgs false
set_option maxRecDepth 100000
set_option maxHeartbeats 40000000
namespace Go.Proofs.Ytgmgpcaahanmiaa
open Go.RowKit
theorem l03Make_yes (q P : Int) (K : Nat) (w : World) (h2 : 2 ≤ q) (h64 : q ≤ 64) (hpp : split q = (P, (K : Int))) (hs : SizeOk q P K) :
    Calls Try.prog 81 #[.int .i64 q] w fun e w' => ∃ v, e = .returned (.agg #[.int .i64 P, .int .i64 K, v]) ∧ Own w' w.heap.size v (polyAt P K (leastN P K)) ∧ Below w.heap.size w w' := by
 obtain ⟨hN1, hN2, hN3⟩ := leastN_spec hs
 have hPl := hs.lo
 have hPh := hs.hi
 have hK1 := hs.k1
 have hK6 := hs.k6
 have hpow := Lib.hid hs.pow
 have HPP := Lib.hid hpp
 generalize leastN P K = N at hN1 hN2 hN3
 have HN2 := Lib.hid hN2
 have HN3 := hide hN3
 clear hpp hN2 hN3 hs
 go_enter Try.func81, Try.ntmps81
 go_wp2_with fail
 obtain ⟨w0, hw0⟩ : ∃ w0, w0 = w.alloc (.cells #[.int .i64 0, .int .i64 0, .slice none 0 0] 34) := ⟨_, rfl⟩
 have k0 : Blk w0 w.heap.size 34 #[.int .i64 0, .int .i64 0, .slice none 0 0] := by rw [hw0]; exact Blk.new _ _ _ rfl
 have hb0 : Below w.heap.size w w0 := by rw [hw0]; exact (Below.refl _ _).alloc (Nat.le_refl _) _
 rw [← hw0]
 clear hw0
 refine (l03Split_any q w0).mono ?_
 rintro e w1 ⟨rfl, rfl⟩
 rw [HPP.out]
 go_wp2_with fail
 go_loopw [5] (fun nv wr => ∃ n : Nat, nv = .int .i64 n ∧ n ≤ N ∧ Blk wr w.heap.size 34 #[.int .i64 0, .int .i64 0, .slice none 0 0] ∧ Below w.heap.size w wr) (fun nv _ => N - (intOf nv).toNat)
 case atStart => exact ⟨0, rfl, Nat.zero_le _, k0, hb0⟩
 case round =>
  obtain ⟨n, rfl, hnN, kr, hb⟩ := hrel
  have klt := kr.lt
  go_wp2_with fail
  refine (l03Digits_any n P K _ (by omega) (by omega) (by omega) (by omega) (by omega)).mono ?_
  rintro e w2 ⟨v2, rfl, o2, b2⟩
  have hsz2 := b2.size
  go_wp2_with (at_builtin; refine wpList_append_ints rfl (.tmp 17) (.tmp 18) rfl _ v2 (dig n P K) [1] rfl (o2.alloc _) _ 1 1 rfl rfl (Rd.lit1 w2 _) (by rw [dig_len]; simp; omega) (by simp; omega) ?_; intro v3 w3 o3 g3 _)
  have b3 : Below wr.heap.size w2 w3 := Below.step ((Below.refl _ _).alloc hsz2 _) g3 (o2.alloc _) (Nat.le_refl _) (by simp; omega)
  have b13 := b2.trans b3
  have hpl := polyAt_len P K n
  have O3 := Lib.hid o3
  obtain ⟨a3, c3, rfl, r3, _⟩ := o3.form
  refine (l03Irreducible_any a3 c3 (polyAt P K n) P w3 r3 (by omega) (by omega) (polyAt_in hPl K n) (by rw [hpl]; omega) (by rw [hpl, Nat.add_sub_cancel, hpow.out]; exact h64)).mono ?_
  rintro e w4 ⟨rfl, b4⟩
  have b14 := b13.trans (b4.mono b13.size)
  have hb4 := hb.trans (b14.mono hb.size)
  have k4 := kr.below b14 klt
  have o4 := O3.out.below b4 (Nat.le_refl _)
  have HPL := Lib.hid hpl
  clear kr hpl r3 g3 o2 b3 b13 b2 b4 O3
  by_cases hnn : n = N
  · subst hnn
    rw [HN2.out]
    have f0 : w4.cell? ⟨w.heap.size, 0, none⟩ = some (.int .i64 0) := k4.cell 0
    have f1 : w4.cell? ⟨w.heap.size, 1, none⟩ = some (.int .i64 0) := k4.cell 1
    have f2 : w4.cell? ⟨w.heap.size, 2, none⟩ = some (.slice none 0 0) := k4.cell 2
    have g0 := k4.frozen 0
    have g1 := k4.frozen 1
    have g2 := k4.frozen 2
    have hla : (dig n P K ++ [1]).length = (dig n P K).length + 1 := by simp
    rw [hla] at o4
    have O4 := Lib.hid o4
    clear o4 hla o3
    go_wp2
    refine bodyPost_ret (results_cell_row rfl _ _ w.heap.size 34 #[.int .i64 P, .int .i64 K, .slice a3 ((dig n P K).length + 1) c3] (0, 0) _ rfl (((k4.set_ 0 _).set_ 1 _).set_ 2 _) Try.underlying34 rfl (by kernel_rfl)) rfl ⟨_, rfl, ?_, ?_⟩
    · exact (((O4.out.storeBelow (by show w.heap.size < _; omega) _).storeBelow (by show w.heap.size < _; omega) _).storeBelow (by show w.heap.size < _; omega) _).mono (by omega)
    · exact ((hb4.setCell (Nat.le_refl _) _).setCell (Nat.le_refl _) _).setCell (Nat.le_refl _) _
  · have hf := (unhide HN3) n (by omega)
    rw [hf]
    go_wp2
    go_roundw
    case rel => exact ⟨n + 1, by go_num, by omega, k4, hb4⟩
    case measure => simp only [intOf]; omega
def fdOf (q : Int) : FD := ⟨(split q).1, (split q).2.toNat, polyAt (split q).1 (split q).2.toNat (leastN (split q).1 (split q).2.toNat)⟩
theorem fdOf_ok {q : Int} (h : isField q = true) : (fdOf q).Ok ∧ (fdOf q).p ^ (fdOf q).k = q ∧ split q = ((fdOf q).p, ((fdOf q).k : Int)) := by
 obtain ⟨h2, h64, he, k, hk, hs⟩ := isField_size h
 obtain ⟨n1, n2, n3⟩ := leastN_spec hs
 have e : fdOf q = ⟨(split q).1, k, polyAt (split q).1 k (leastN (split q).1 k)⟩ := by rw [fdOf, hk, Int.toNat_natCast]
 rw [e]
 have hp := hs.pow
 refine ⟨⟨hs.lo, hs.hi, hs.k1, hs.k6, by show _ ^ _ ≤ _; rw [hp]; exact h64, polyAt_len _ _ _, polyAt_in hs.lo _ _, ?_, n2⟩, hp, by rw [← hk]⟩
 show nth (polyAt _ _ _) k = 1
 rw [polyAt, nth, List.getD_eq_getElem?_getD, List.getElem?_append_right (by rw [dig_len]; exact Nat.le_refl _), dig_len]
 simp
theorem l03Make_any (q : Int) (w : World) (h : isField q = true) :
    Calls Try.prog 81 #[.int .i64 q] w fun e w' => ∃ v, e = .returned (.agg #[.int .i64 (fdOf q).p, .int .i64 (fdOf q).k, v]) ∧ Own w' w.heap.size v (fdOf q).poly ∧ Below w.heap.size w w' := by
 obtain ⟨h2, h64, he, k, hk, hs⟩ := isField_size h
 have e : fdOf q = ⟨(split q).1, k, polyAt (split q).1 k (leastN (split q).1 k)⟩ := by rw [fdOf, hk, Int.toNat_natCast]
 rw [e]
 exact l03Make_yes q _ k w h2 h64 (by rw [← hk]) hs
theorem mkF_fd {q : Int} (h : isField q = true) : mkF q = ((fdOf q).p, ((fdOf q).k : Int), (fdOf q).poly, 0) := by
 obtain ⟨h2, h64, he, k, hk, hs⟩ := isField_size h
 rw [mkF, if_pos h, fdOf, hk, Int.toNat_natCast]
theorem implMake_any (q : Int) (w : World) (h : isField q = true) :
    Calls Try.prog 110 #[.int .i64 q] w fun e w' => ∃ v, e = .returned (.tuple #[.agg #[.int .i64 (fdOf q).p, .int .i64 (fdOf q).k, v], .int .i64 0]) ∧ Own w' w.heap.size v (fdOf q).poly ∧ Below w.heap.size w w' := by
 have := MakeField_any q w
 rw [mkF_fd h] at this
 exact this
end Go.Proofs.Ytgmgpcaahanmiaa
namespace Go.Proofs.Ytgmgpcaahanmiaa
open Go.RowKit
structure FD.Good (F : FD) : Prop where
 ok : F.Ok
 spl : split (F.p ^ F.k) = (F.p, (F.k : Int))
theorem smN_cast (f : Nat → Nat) (g : Nat → Int) (h : ∀ i, (f i : Int) = g i) (n : Nat) : (smN f n : Int) = sm g n := by
 induction n with
 | zero => rfl
 | succ n ih => rw [smN, sm, Int.natCast_add, ih, h]
theorem cvN_cast {x y : Nat → Nat} {X Y : Nat → Int} (hx : ∀ i, (x i : Int) = X i) (hy : ∀ i, (y i : Int) = Y i) (m n : Nat) : (cvN x y m n : Int) = cv X Y m n := by
 refine smN_cast _ _ (fun i => ?_) n
 split
 · rw [Int.natCast_mul, hx, hy]
 · rfl
theorem dN_cast {p k a : Nat} (hp : 2 ≤ p) (ha : a < p ^ k) (i : Nat) : (dN p a i : Int) = nth (dig (a : Int) (p : Int) k) i := by
 unfold dN
 by_cases h : i < k
 · rw [dig_nth _ _ h]
   push_cast
   rfl
 · rw [nth_big (by rw [dig_len]; omega), Nat.div_eq_of_lt (Nat.lt_of_lt_of_le ha (Nat.pow_le_pow_right (by omega) (by omega)))]
   simp
theorem mul_one_of {F : FD} (ok : F.Ok) (a b : Int) (y : Nat → Int) (h : ∀ m, m < 2 * F.k → Cg F.p (cv (nth (dig a F.p F.k)) (nth (dig b F.p F.k)) m F.k) ((if m = 0 then 1 else 0) + 1 * cv y (nth F.poly) m F.k)) : F.mul a b = 1 := by
 have hp2 := ok.p2
 have hk := ok.k1
 have h1 : F.el 1 := ⟨by omega, by have := pow_mono (p := F.p) (by omega) hk; rw [Int.pow_one] at this; omega⟩
 refine dig_ext (by omega) (mul_el ok _ _) h1 fun j hj => ?_
 rw [mul_digs ok]
 refine (P_lin ok.len 1 (u := fun m => if m = 0 then 1 else 0) (v := fun m => cv y (nth F.poly) m F.k) (fun m hm => h m hm) j).trans ?_
 refine ((Cg.refl F.p _).add ((Cg.refl F.p 1).mul (P_mult hp2 ok.len hk ok.one y F.k (by omega) j))).trans ?_
 rw [P_self (by omega) ok.len (fun i hi => by show (if i = 0 then (1 : Int) else 0) = 0; rw [if_neg (by omega)]) (by omega) hj]
 have := dig_pow (F := F) hp2 (j := 0) hj
 rw [Int.pow_zero] at this
 rw [this, Int.mul_zero, Int.add_zero]
 exact Cg.emod _ _
theorem poly_at {F : FD} (ok : F.Ok) : ∃ N : Nat, (N : Int) < F.p ^ F.k ∧ F.poly = polyAt F.p F.k N := by
 have hin : InR F.p (F.poly.take F.k) := fun x hx => ok.inR x (List.mem_of_mem_take hx)
 have hl : (F.poly.take F.k).length = F.k := by rw [List.length_take, ok.len]; omega
 have hb := num_bound (show 0 < F.p by have := ok.p2; omega) hin
 rw [hl] at hb
 refine ⟨(num F.p (F.poly.take F.k)).toNat, by omega, ?_⟩
 rw [polyAt, show (((num F.p (F.poly.take F.k)).toNat : Nat) : Int) = num F.p (F.poly.take F.k) by omega, dig_num (by have := ok.p2; omega) hin hl]
 have e := take_nth (xs := F.poly) (k := F.k) (by rw [ok.len]; omega)
 rw [ok.one, List.take_of_length_le (by rw [ok.len]; exact Nat.le_refl _)] at e
 exact e
theorem inv_exists {F : FD} (hG : F.Good) {a : Int} (h1 : 1 ≤ a) (ha : a < F.p ^ F.k) : ∃ b, F.el b ∧ F.mul a b = 1 := by
 have ok := hG.ok
 have hp2 := ok.p2
 have hk := ok.k1
 obtain ⟨p, hp⟩ := Int.eq_ofNat_of_zero_le (show 0 ≤ F.p by omega)
 obtain ⟨a, rfl⟩ := Int.eq_ofNat_of_zero_le (show 0 ≤ a by omega)
 obtain ⟨N, hN, hpoly⟩ := poly_at ok
 have hq : F.p ^ F.k = ((p ^ F.k : Nat) : Int) := by rw [hp]; push_cast; rfl
 have hq64 := ok.q64
 have hspl := hG.spl
 rw [hq] at hspl hN ha hq64
 have hq2 : 2 ≤ p ^ F.k := by
  have := Nat.pow_le_pow_right (n := p) (by omega) hk
  rw [Nat.pow_one] at this
  omega
 have t := invTab_all (p ^ F.k) (by omega) hq2 N (by omega)
 have es : splitN (p ^ F.k) = (F.p, (F.k : Int)) := by
  rw [split, if_pos (inB_yes (by omega) (by omega)), Int.toNat_natCast] at hspl
  exact hspl
 have hirr := ok.irr
 rw [hpoly] at hirr
 simp only [inTab, es, Int.toNat_natCast, hirr, Bool.or_eq_true, beq_iff_eq, Bool.not_true, Bool.false_eq_true, or_false, List.any_eq_true, Bool.and_eq_true] at t
 rcases t with t | ⟨t, ht, e1, e2, e3⟩
 · omega
 · have hc := List.all_eq_true.1 invTab_ok t ht
   obtain ⟨tp, tk, tN, tl⟩ := t
   simp only [] at e1 e2 e3
   obtain rfl : tp = p := by omega
   obtain rfl : tk = F.k := by omega
   simp only [invOk, Bool.and_eq_true, beq_iff_eq, Bool.or_eq_true, bne_iff_ne, List.all_eq_true, List.mem_range] at hc
   obtain ⟨⟨c1, c2⟩, c3⟩ := hc
   have c4 := c3 a (by omega)
   rcases c4 with c4 | c4
   · omega
   · generalize hbq : tl.getD a (0, 0) = bq at c4
     have hmem : bq ∈ tl := by
      rw [← hbq, List.getD_eq_getElem?_getD, List.getElem?_eq_getElem (by omega)]
      exact List.getElem_mem _
     simp only [invAt, Bool.and_eq_true, decide_eq_true_eq, List.all_eq_true, List.mem_range, beq_iff_eq] at c4
     obtain ⟨⟨d1, d2⟩, d3⟩ := c4
     have hdN : ∀ (x : Nat), x < tp ^ F.k → ∀ i, (dN tp x i : Int) = nth (dig (x : Int) F.p F.k) i := fun x hx i => by rw [hp]; exact dN_cast (by omega) hx i
     refine ⟨(bq.1 : Int), ⟨by omega, by rw [hq]; omega⟩, mul_one_of ok _ _ (nth (dig (bq.2 : Int) F.p F.k)) fun m hm => ?_⟩
     have d4 := d3 m hm
     have d5 : Cg F.p ((cvN (dN tp a) (dN tp bq.1) m F.k : Nat) : Int) (((if m = 0 then 1 else 0) + cvN (dN tp bq.2) (polyN tp F.k tN) m F.k : Nat) : Int) := by
      have : ((cvN (dN tp a) (dN tp bq.1) m F.k : Nat) : Int) % F.p = (((if m = 0 then 1 else 0) + cvN (dN tp bq.2) (polyN tp F.k tN) m F.k : Nat) : Int) % F.p := by
       rw [hp]; exact_mod_cast d4
      exact ((Cg.emod F.p _).symm.trans (Cg.of_eq this)).trans (Cg.emod _ _)
     rw [cvN_cast (hdN a (by omega)) (hdN bq.1 d1)] at d5
     refine d5.trans (Cg.of_eq ?_)
     rw [Int.one_mul]
     push_cast
     congr 1
     · split <;> rfl
     · rcases e3 with e3 | e3
       · have z2 : bq.2 = 0 := by
           rcases c2 with c2 | c2
           · exact absurd e3 c2
           · exact c2 bq hmem
         have z : ∀ i, dN tp bq.2 i = 0 := fun i => by rw [z2]; simp [dN]
         have y : ∀ i, nth (dig ((bq.2 : Nat) : Int) F.p F.k) i = 0 := fun i => by rw [← hdN bq.2 d2 i, z i]; rfl
         have l0 : cvN (dN tp bq.2) (polyN tp F.k tN) m F.k = 0 := by
          have := cvN_cast (x := dN tp bq.2) (X := fun _ => 0) (y := polyN tp F.k tN) (Y := fun i => (polyN tp F.k tN i : Int)) (fun i => by rw [z i]; rfl) (fun _ => rfl) m F.k
          have z0 : cv (fun _ => 0) (fun i => (polyN tp F.k tN i : Int)) m F.k = 0 := sm_zero fun i _ => by split <;> simp
          omega
         rw [l0]
         have r0 : cv (nth (dig ((bq.2 : Nat) : Int) F.p F.k)) (nth F.poly) m F.k = 0 := sm_zero fun i _ => by rw [y i]; split <;> simp
         rw [r0]; rfl
       · subst e3
         refine cvN_cast (hdN bq.2 d2) (fun i => ?_) m F.k
         rw [hpoly, polyAt]
         unfold polyN
         rcases Nat.lt_trichotomy i F.k with h | h | h
         · rw [if_neg (by omega), hdN tN (by omega) i, nth, nth, List.getD_eq_getElem?_getD, List.getD_eq_getElem?_getD, List.getElem?_append_left (by rw [dig_len]; exact h)]
         · subst h
           rw [if_pos rfl, nth, List.getD_eq_getElem?_getD, List.getElem?_append_right (by rw [dig_len]; exact Nat.le_refl _), dig_len]
           simp
         · rw [if_neg (by omega), hdN tN (by omega) i, nth_big (by rw [dig_len]; omega), nth_big (by rw [List.length_append, dig_len]; simp; omega)]
theorem inv_unique {F : FD} (ok : F.Ok) {a b c : Int} (ha : F.el a) (hb : F.el b) (hc : F.el c) (h1 : F.mul a b = 1) (h2 : F.mul a c = 1) : b = c := by
 have e1 : F.mul (F.mul b a) c = F.mul b (F.mul a c) := mul_assoc' ok hb ha
 rw [h2, mul_comm' ok b a, h1, one_mul' ok hc, mul_comm' ok b 1, one_mul' ok hb] at e1
 exact e1.symm
end Go.Proofs.Ytgmgpcaahanmiaa
namespace Go.Proofs.Ytgmgpcaahanmiaa
open Go.RowKit
def FD.inv (F : FD) (a : Int) : Int := ((((List.range F.n).find? (fun (b : Nat) => F.mul a b == 1)).getD 0 : Nat) : Int)
section
variable {F : FD}
theorem FD.Good.el_iff (hG : F.Good) {a : Int} : F.el a ↔ 0 ≤ a ∧ a < F.n := by rw [FD.el, hG.ok.n_eq]
theorem inv_spec (hG : F.Good) {a : Int} (h1 : 1 ≤ a) (ha : a < F.n) : F.mul a (F.inv a) = 1 ∧ 1 ≤ F.inv a ∧ F.inv a < F.n ∧ ∀ b : Nat, (b : Int) < F.inv a → F.mul a b ≠ 1 := by
 have hp2 := hG.ok.p2
 obtain ⟨b, hb, hm⟩ := inv_exists hG h1 (by rw [hG.ok.n_eq]; exact ha)
 rw [hG.el_iff] at hb
 obtain ⟨b, rfl⟩ := Int.eq_ofNat_of_zero_le hb.1
 unfold FD.inv
 cases hf : (List.range F.n).find? (fun (b : Nat) => F.mul a b == 1) with
 | none =>
  rw [List.find?_eq_none] at hf
  have := hf b (List.mem_range.2 (by omega))
  simp [hm] at this
 | some c =>
  rw [Option.getD_some]
  have c1 := List.find?_some hf
  have c2 := List.mem_of_find?_eq_some hf
  rw [List.mem_range] at c2
  rw [List.find?_range_eq_some] at hf
  have c3 : F.mul a c = 1 := by simpa using c1
  refine ⟨c3, ?_, by omega, fun b hb => by have := hf.2.2 b (by omega); simpa using this⟩
  rcases Nat.eq_zero_or_pos c with h0 | h0
  · subst h0
    have z : F.mul a ((0 : Nat) : Int) = 0 := mulF_zero (by omega) hG.ok.len a
    rw [z] at c3
    omega
  · omega
theorem inv_zero (hG : F.Good) : F.inv 0 = 0 := by
 unfold FD.inv
 have : (List.range F.n).find? (fun (b : Nat) => F.mul 0 b == 1) = none := by
  rw [List.find?_eq_none]
  intro b _
  have z : F.mul 0 b = 0 := zero_mulF (by have := hG.ok.p2; omega) hG.ok.len b
  rw [z]; decide
 rw [this]; rfl
theorem inv_el (hG : F.Good) {a : Int} (h0 : 0 ≤ a) (ha : a < F.n) : 0 ≤ F.inv a ∧ F.inv a < F.n := by
 by_cases h : a = 0
 · subst h; rw [inv_zero hG]; have := hG.ok.n_bd; omega
 · have := inv_spec hG (show 1 ≤ a by omega) ha; omega
theorem invIn_other (a : Nat) (z : List Int) (b : Nat) {j : Nat} (h : a ≠ j) : nth (invIn F a z b) j = nth z j := by
 induction b with
 | zero => rfl
 | succ b ih =>
  rw [invIn]
  split
  · rw [nth_set_ne h, ih]
  · exact ih
theorem invIn_self (hG : F.Good) {a : Nat} (ha : a < F.n) (z : List Int) (hz : nth z a = 0) (hzl : z.length = F.n) (b : Nat) (hb : b ≤ F.n) : nth (invIn F a z b) a = if F.inv a < b then F.inv a else 0 := by
 induction b with
 | zero =>
  rw [invIn, hz]
  split
  · have := inv_el hG (a := a) (by omega) (by omega); omega
  · rfl
 | succ b ih =>
  have ih := ih (by omega)
  rw [invIn]
  by_cases h : F.mul a b = 1
  · rw [if_pos h, nth_set_same (by rw [invIn_len, hzl]; exact ha)]
    have ha0 : 1 ≤ a := by
     rcases Nat.eq_zero_or_pos a with h0 | h0
     · subst h0
       have z : F.mul ((0 : Nat) : Int) b = 0 := zero_mulF (by have := hG.ok.p2; omega) hG.ok.len b
       rw [z] at h; omega
     · exact h0
    obtain ⟨s1, s2, s3, s4⟩ := inv_spec hG (a := a) (by omega) (by omega)
    have e : (b : Int) = F.inv a := inv_unique hG.ok (a := a) (hG.el_iff.2 ⟨by omega, by omega⟩) (hG.el_iff.2 ⟨by omega, by omega⟩) (hG.el_iff.2 ⟨by omega, s3⟩) h s1
    rw [if_pos (by omega)]; exact e
  · rw [if_neg h, ih]
    by_cases h2 : F.inv a < b
    · rw [if_pos h2, if_pos (by omega)]
    · rw [if_neg h2]
      by_cases h3 : F.inv a < ((b + 1 : Nat) : Int)
      · rw [if_pos h3]
        by_cases ha0 : a = 0
        · subst ha0
          exact (inv_zero hG).symm
        · obtain ⟨s1, _⟩ := inv_spec hG (a := a) (by omega) (by omega)
          rw [show F.inv a = b by omega] at s1
          exact absurd s1 h
      · rw [if_neg h3]
theorem invTo_at (hG : F.Good) (m : Nat) (hm : m ≤ F.n) (j : Nat) (hj : j < F.n) : nth (invTo F m) j = if j < m then F.inv j else 0 := by
 induction m with
 | zero => rw [invTo, zeros_nth, if_neg (by omega)]
 | succ m ih =>
  have ih := ih (by omega)
  rw [invTo]
  by_cases e : m = j
  · subst e
    rw [if_neg (by omega)] at ih
    have e1 := (inv_el hG (a := (m : Int)) (by omega) (by omega)).2
    rw [invIn_self hG hj _ ih (invTo_len F m) _ (Nat.le_refl _), if_pos e1, if_pos (by omega)]
  · rw [invIn_other _ _ _ e, ih]
    by_cases h : j < m
    · rw [if_pos h, if_pos (by omega)]
    · rw [if_neg h, if_neg (by omega)]
theorem invTo_nth (hG : F.Good) {j : Nat} (hj : j < F.n) : nth (invTo F F.n) j = F.inv j := by
 rw [invTo_at hG _ (Nat.le_refl _) j hj, if_pos hj]
end
end Go.Proofs.Ytgmgpcaahanmiaa
namespace Go.Proofs.Ytgmgpcaahanmiaa
open Go.RowKit
def okF (p d : Int) (xs : List Int) : Bool :=
 inB p 2 64 && (inB d 1 6 && ((xs.length : Int) == d + 1 && (nth xs d.toNat == 1 && ((split (p ^ d.toNat)).1 == p && (xs.all (fun x => inB x 0 (p - 1)) && irr xs p)))))
def ppTab (p d : Nat) : Bool := (split ((p : Int) ^ d) == ((p : Int), (d : Int))) == ((facs p).length == 1 && decide ((p : Int) ^ d ≤ 64)) && ((split ((p : Int) ^ d)).1 == (p : Int)) == ((facs p).length == 1 && decide ((p : Int) ^ d ≤ 64))
theorem ppTab_ok : ∀ p : Nat, p < 65 → 2 ≤ p → ∀ d : Nat, d < 7 → 1 ≤ d → ppTab p d = true := by decide +kernel
theorem pp_iff {p d : Nat} (h1 : 2 ≤ p) (h2 : p ≤ 64) (h3 : 1 ≤ d) (h4 : d ≤ 6) :
    ((split ((p : Int) ^ d)).1 = (p : Int) ↔ ((facs p).length = 1 ∧ (p : Int) ^ d ≤ 64)) ∧ ((split ((p : Int) ^ d)).1 = (p : Int) → split ((p : Int) ^ d) = ((p : Int), (d : Int))) := by
 have t := ppTab_ok p (by omega) h1 d (by omega) h3
 rw [ppTab, Bool.and_eq_true, beq_iff_eq, beq_iff_eq] at t
 obtain ⟨t1, t2⟩ := t
 have e1 : (split ((p : Int) ^ d)).1 = (p : Int) ↔ ((facs p).length = 1 ∧ (p : Int) ^ d ≤ 64) := by
  rw [← beq_iff_eq (a := (split ((p : Int) ^ d)).1), t2, Bool.and_eq_true, beq_iff_eq, decide_eq_true_eq]
 refine ⟨e1, fun h => ?_⟩
 rw [← beq_iff_eq (a := split ((p : Int) ^ d)), t1, Bool.and_eq_true, beq_iff_eq, decide_eq_true_eq]
 exact e1.1 h
theorem okF_good {p d : Int} {xs : List Int} (h : okF p d xs = true) : ∃ F : FD, F.Good ∧ p = F.p ∧ d = (F.k : Int) ∧ xs = F.poly := by
 simp only [okF, Bool.and_eq_true, inB_true, beq_iff_eq, List.all_eq_true] at h
 obtain ⟨⟨a1, a2⟩, ⟨b1, b2⟩, c, e, f, g, i⟩ := h
 obtain ⟨P, rfl⟩ := Int.eq_ofNat_of_zero_le (show 0 ≤ p by omega)
 obtain ⟨K, rfl⟩ := Int.eq_ofNat_of_zero_le (show 0 ≤ d by omega)
 rw [Int.toNat_natCast] at e f
 obtain ⟨t1, t2⟩ := pp_iff (p := P) (d := K) (by omega) (by omega) (by omega) (by omega)
 refine ⟨⟨P, K, xs⟩, ⟨⟨a1, a2, by show 1 ≤ K; omega, by show K ≤ 6; omega, (t1.1 f).2, by show xs.length = K + 1; omega, fun x hx => ?_, e, i⟩, t2 f⟩, rfl, rfl, rfl⟩
 have := g x hx
 exact ⟨this.1, by show x < (P : Int); omega⟩
theorem okF_prime {p d : Int} (h1 : 2 ≤ p) (h2 : p ≤ 64) (h3 : 1 ≤ d) (h4 : d ≤ 6) : (split (p ^ d.toNat)).1 = p ↔ ((facs p).length = 1 ∧ capTo p 64 d.toNat ≤ 64) := by
 obtain ⟨P, rfl⟩ := Int.eq_ofNat_of_zero_le (show 0 ≤ p by omega)
 obtain ⟨K, rfl⟩ := Int.eq_ofNat_of_zero_le (show 0 ≤ d by omega)
 rw [Int.toNat_natCast, (pp_iff (p := P) (d := K) (by omega) (by omega) (by omega) (by omega)).1]
 constructor
 · rintro ⟨a, b⟩
   exact ⟨a, by rw [capTo_pow (by omega) _ b]; exact b⟩
 · rintro ⟨a, b⟩
   refine ⟨a, ?_⟩
   rcases Int.lt_or_le 64 ((P : Int) ^ K) with h | h
   · exfalso
     have : ∀ k, capTo P 64 k ≤ 64 → capTo P 64 k = (P : Int) ^ k := by
      intro k
      induction k with
      | zero => intro _; simp [capTo]
      | succ k ih =>
       intro hk
       by_cases hc : capTo P 64 k ≤ 64
       · rw [capTo_go hc, ih hc, Int.pow_succ]
       · rw [capTo_stop hc (k + 1) (by omega)] at hk; exact absurd hk hc
     rw [this K b] at b
     omega
   · exact h
theorem cap_small {p : Int} {d : Nat} (h1 : 2 ≤ p) (h3 : 1 ≤ d) (h : capTo p 64 d ≤ 64) : p ≤ 64 ∧ d ≤ 6 := by
 have e1 : capTo p 64 1 = p := by rw [capTo_go (show capTo p 64 0 ≤ 64 by simp [capTo])]; simp [capTo]
 constructor
 · rcases Int.lt_or_le 64 p with hp | hp
   · rw [capTo_stop (k := 1) (by rw [e1]; omega) d h3, e1] at h; omega
   · exact hp
 · rcases Nat.lt_or_ge 6 d with hd | hd
   · exfalso
     have e : ∀ k, (2 : Int) ^ k ≤ capTo p 64 k ∨ 64 < capTo p 64 k := by
      intro k
      induction k with
      | zero => left; simp [capTo]
      | succ k ih =>
       by_cases hc : capTo p 64 k ≤ 64
       · left
         rw [capTo_go hc, Int.pow_succ]
         rcases ih with ih | ih
         · exact Int.mul_le_mul ih h1 (by omega) (by have := capTo_pos (b := p) (l := 64) (by omega) k; omega)
         · omega
       · right; rw [capTo_stop hc (k + 1) (by omega)]; omega
     have h7 : capTo p 64 7 ≤ 64 := by
      rcases Int.lt_or_le 64 (capTo p 64 7) with hh | hh
      · rw [capTo_stop (k := 7) (by omega) d (by omega)] at h; omega
      · exact hh
     rcases e 7 with e7 | e7
     · have : (2 : Int) ^ 7 = 128 := by decide
       omega
     · omega
   · exact hd
def okI (p d : Int) (xs : List Int) : Bool :=
 ((facs p).length == 1) && (decide (1 ≤ d) && (decide (capTo p 64 d.toNat ≤ 64) && ((xs.length : Int) == d + 1 && (nth xs d.toNat == 1 && (xs.all (fun x => inB x 0 (p - 1)) && irr xs p)))))
theorem facs_prime {p : Int} (h : (facs p).length = 1) : 2 ≤ p ∧ p ≤ 1000000 := by
 unfold facs at h
 by_cases hb : inB p 1 1000000 = true
 · obtain ⟨h1, h2⟩ := inB_true.1 hb
   rw [if_pos hb] at h
   refine ⟨?_, h2⟩
   rcases Int.lt_or_le 1 p with h3 | h3
   · omega
   · obtain rfl : p = 1 := by omega
     exact absurd h (by decide)
 · rw [if_neg hb] at h
   simp at h
theorem okI_eq (p d : Int) (xs : List Int) : okI p d xs = okF p d xs := by
 unfold okI okF
 by_cases h1 : (facs p).length = 1 ∧ 1 ≤ d ∧ capTo p 64 d.toNat ≤ 64
 · obtain ⟨a, b, c⟩ := h1
   obtain ⟨p2, _⟩ := facs_prime a
   obtain ⟨p64, d6⟩ := cap_small p2 (by omega) c
   have e := (okF_prime p2 p64 b (by omega)).2 ⟨a, c⟩
   rw [inB_yes p2 p64, inB_yes b (by omega), e]
   simp [a, b, c]
 · have l : (((facs p).length == 1) && (decide (1 ≤ d) && (decide (capTo p 64 d.toNat ≤ 64) && ((xs.length : Int) == d + 1 && (nth xs d.toNat == 1 && (xs.all (fun x => inB x 0 (p - 1)) && irr xs p)))))) = false := by
     rw [Bool.eq_false_iff]
     intro hh
     simp only [Bool.and_eq_true, beq_iff_eq, decide_eq_true_eq] at hh
     exact h1 ⟨hh.1, hh.2.1, hh.2.2.1⟩
   rw [l, eq_comm, Bool.eq_false_iff]
   intro hh
   simp only [Bool.and_eq_true, beq_iff_eq, inB_true] at hh
   obtain ⟨⟨p2, p64⟩, ⟨d1, d6⟩, _, _, e, _⟩ := hh
   obtain ⟨a, c⟩ := (okF_prime p2 p64 d1 d6).1 e
   exact h1 ⟨a, d1, c⟩
end Go.Proofs.Ytgmgpcaahanmiaa
namespace Go.Proofs.Ytgmgpcaahanmiaa
open Go.RowKit
attribute [local go_sem ↓] Go.wp_at_zero Go.wp_at_succ
def scale (F : FD) (c : Int) (xs : List Int) : List Int := xs.map (F.mul c)
def less (F : FD) (v w : List Int) (c : Int) : List Int := (List.range v.length).map fun (i : Nat) => F.sub (nth v i) (F.mul c (nth w i))
theorem scale_len (F : FD) (c : Int) (xs : List Int) : (scale F c xs).length = xs.length := by simp [scale]
theorem less_len (F : FD) (v w : List Int) (c : Int) : (less F v w c).length = v.length := by simp [less]
theorem scale_nth (F : FD) (c : Int) {xs : List Int} {i : Nat} (h : i < xs.length) : nth (scale F c xs) i = F.mul c (nth xs i) := by
 rw [nth_lt (by rw [scale_len]; exact h), nth_lt h]; simp [scale]
theorem less_nth (F : FD) (v w : List Int) (c : Int) {i : Nat} (h : i < v.length) : nth (less F v w c) i = F.sub (nth v i) (F.mul c (nth w i)) := by
 simp [less, nth, h]
def lessTo (F : FD) (v w : List Int) (c : Int) (k : Nat) : List Int := (List.range k).map fun (i : Nat) => F.sub (nth v i) (F.mul c (nth w i))
theorem lessTo_len (F : FD) (v w : List Int) (c : Int) (k : Nat) : (lessTo F v w c k).length = k := by simp [lessTo]
theorem lessTo_succ (F : FD) (v w : List Int) (c : Int) (k : Nat) : lessTo F v w c (k + 1) = lessTo F v w c k ++ [F.sub (nth v k) (F.mul c (nth w k))] := by simp [lessTo, List.range_succ]
theorem scale_take (F : FD) (c : Int) {xs : List Int} {k : Nat} (h : k < xs.length) : scale F c (xs.take (k + 1)) = scale F c (xs.take k) ++ [F.mul c (nth xs k)] := by
 rw [take_nth h]; simp [scale]
theorem mul_bd {F : FD} (ok : F.Ok) (a b : Int) : 0 ≤ F.mul a b ∧ F.mul a b < F.n := by
 have := mul_el ok a b
 rwa [FD.el, ok.n_eq] at this
theorem sub_bd {F : FD} (ok : F.Ok) (a b : Int) : 0 ≤ F.sub a b ∧ F.sub a b < F.n := by
 have := lin_range (show 0 < F.p by have := ok.p2; omega) (-1) F.k a b
 rwa [ok.n_eq] at this
theorem add_bd {F : FD} (ok : F.Ok) (a b : Int) : 0 ≤ F.add a b ∧ F.add a b < F.n := by
 have := lin_range (show 0 < F.p by have := ok.p2; omega) 1 F.k a b
 rwa [ok.n_eq] at this
theorem l03Size_any (g : Nat) (F : FD) (w : World) (hF : PF w g F) (ok : F.Ok) :
    Calls Try.prog 198 #[.pointer (some ⟨g, 0, none⟩)] w fun e w' => e = .returned (.int .i64 F.n) ∧ Below w.heap.size w w' := by
 have hp2 := ok.p2
 have hp64 := ok.p64
 have hk6 := ok.k6
 have hq := ok.q64
 have hpow := fun W => l03Power_any F.p F.k W (by omega) (by omega) (by omega) (by omega)
 rw [ok.n_eq] at hpow
 have HP := hide hpow
 have boxes : ∀ (W : World), Below w.heap.size w W → (Below w.heap.size w W ∧ W.cell? ⟨g, 0, none⟩ = some (.int .i64 F.p) ∧ W.cell? ⟨g, 1, none⟩ = some (.int .i64 F.k)) := fun _ h => ⟨h, (hF.below h).1, (hF.below h).2.1⟩
 have BX := hide boxes
 clear hpow boxes
 go_enter Try.func198, Try.ntmps198
 go_upto_region 1 with fail
 go_region_held3 (fun W => Below w.heap.size w W ∧ W.cell? ⟨g, 0, none⟩ = some (.int .i64 F.p) ∧ W.cell? ⟨g, 1, none⟩ = some (.int .i64 F.k))
  (first | exact (unhide BX) _ (Below.refl _ _) | exact (unhide BX) _ ((Below.refl _ _).drew) | exact (unhide BX) _ (by assumption))
  (first
   | (go_at_call 208; refine (unhide HP _).mono ?_; rintro e W1 ⟨rfl, rfl⟩))
 go_wp2
 go_ret
 exact ⟨rfl, (Below.refl _ _).drew⟩
theorem l03Inverse_any (g : Nat) (F : FD) (a : Int) (w : World) (hF : PF w g F) (hG : F.Good) (h1 : 1 ≤ a) (ha : a < F.n) :
    Calls Try.prog 227 #[.pointer (some ⟨g, 0, none⟩), .int .i64 a] w fun e w' => e = .returned (.int .i64 (F.inv a)) ∧ Below w.heap.size w w' := by
 have ok := hG.ok
 obtain ⟨n2, n64⟩ := ok.n_bd
 obtain ⟨i1, i2, i3, i4⟩ := inv_spec hG h1 ha
 generalize F.inv a = I at i1 i2 i3 i4
 have I1 := Lib.hid i1
 have I4 := hide i4
 clear i1 i4
 go_enter Try.func227, Try.ntmps227
 go_wp2
 go_loopw [5] (fun bv wr => ∃ (b : Nat), bv = .int .i64 b ∧ 1 ≤ b ∧ (b : Int) ≤ I ∧ Below w.heap.size w wr) (fun bv _ => (I - intOf bv).toNat)
 case atStart => exact ⟨1, rfl, by omega, by omega, Below.refl _ _⟩
 case round =>
  obtain ⟨b, rfl, hb1, hb2, hb⟩ := hrel
  have hm := l03Mul_any g F a b wr (hF.below hb) ok (by omega) (by omega) (by omega) (by omega)
  by_cases e : (b : Int) = I
  · have e1 : mulF F.p F.k F.poly a b = 1 := by rw [e]; exact I1.out
    rw [e1] at hm
    have HM := hide hm
    have E := Lib.hid e
    clear hm e e1
    go_wp2_with fail
    refine (unhide HM).mono ?_
    rintro e w1 ⟨rfl, b1⟩
    go_wp2
    go_ret
    exact ⟨ret_int E.out, hb.trans (b1.mono hb.size)⟩
  · have e1 := (unhide I4) b (by omega)
    rw [FD.mul] at e1
    generalize mulF F.p F.k F.poly a b = M at hm e1
    have HM := hide hm
    have e2 : (M != 1) = true := by rw [bne_iff_ne]; exact e1
    clear hm e1
    go_wp2_with fail
    refine (unhide HM).mono ?_
    rintro e w1 ⟨rfl, b1⟩
    go_wp2
    go_roundw
    case rel => exact ⟨b + 1, by go_num, by omega, by omega, hb.trans (b1.mono hb.size)⟩
    case measure => simp only [intOf]; omega
theorem l17Scale_any (g : Nat) (F : FD) (a : Option Addr) (c : Nat) (xs : List Int) (s : Int) (w : World) (hF : PF w g F) (ok : F.Ok) (hx : Rd w a xs) (hs0 : 0 ≤ s) (hs1 : s < F.n) (hm : ∀ x ∈ xs, 0 ≤ x ∧ x < F.n) :
    Calls Try.prog 86 #[.pointer (some ⟨g, 0, none⟩), .slice a xs.length c, .int .i64 s] w fun e w' => ∃ v, e = .returned v ∧ Own w' w.heap.size v (scale F s xs) ∧ Below w.heap.size w w' := by
 obtain ⟨n2, n64⟩ := ok.n_bd
 have hxl := hx.len
 go_enter Try.func86, Try.ntmps86
 go_wp2
 go_loopw [7, 8] (fun v iv wr => ∃ (k : Nat), iv = .int .i64 k ∧ k ≤ xs.length ∧ Hid (Own wr w.heap.size v (scale F s (xs.take k))) ∧ Below w.heap.size w wr) (fun _ iv _ => xs.length - (intOf iv).toNat)
 case atStart => exact ⟨0, rfl, Nat.zero_le _, Own.empty w (Nat.le_refl _), (Below.refl _ _).alloc (Nat.le_refl _) _⟩
 case round =>
  obtain ⟨k, rfl, hk, ho, hb⟩ := hrel
  have hsz := hb.size
  by_cases hkl : k < xs.length
  · obtain ⟨b1, o1, rfl, _, hc⟩ := (hx.below hb).at_ (by omega)
    have h1 := hc k hkl
    have hxr := hm _ (nth_mem hkl)
    have hst := scale_take F s hkl
    have hsl : (scale F s (xs.take k)).length = k := by rw [scale_len, List.length_take]; omega
    generalize nth xs k = x at h1 hxr hst
    have hmul := fun W h => l03Mul_any g F x s W h ok hxr.1 (by omega) hs0 (by omega)
    have hcm : mulF F.p F.k F.poly x s = F.mul s x := mul_comm' ok x s
    rw [hcm] at hmul
    generalize F.mul s x = M at hmul hst
    have HMUL := hide hmul
    have HST := Lib.hid hst
    have HSL := Lib.hid hsl
    clear hc hmul hcm hst hsl hm hx
    go_wp2_with fail
    refine (unhide HMUL _ (hF.below hb)).mono ?_
    rintro e w1 ⟨rfl, b1⟩
    have o1 := ho.out.below b1 (Nat.le_refl _)
    have hs1 := b1.size
    have hb1 := hb.trans (b1.mono hsz)
    go_wp2_with (at_builtin; refine wpList_append_ints rfl (.tmp 16) (.tmp 24) rfl w.heap.size u7 (scale F s (xs.take k)) [M] rfl (o1.alloc _) _ 1 1 rfl rfl (Rd.one w1 M _) (by rw [HSL.out]; simp; omega) (by simp; omega) ?_; intro v2 w2 o2 g2 _)
    go_roundw
    case rel => exact ⟨k + 1, by go_num, by omega, by show Own _ _ _ _; rw [HST.out]; exact o2, Below.step (hb1.alloc (by omega) _) g2 (o1.alloc _) (Nat.le_refl _) (by simp; omega)⟩
    case measure => simp only [intOf]; omega
  · have hke : k = xs.length := by omega
    have HE := Lib.hid hke
    clear hke
    go_wp2
    go_ret
    exact ⟨_, rfl, by have o := ho.out; rw [HE.out, List.take_length] at o; exact o, hb⟩
end Go.Proofs.Ytgmgpcaahanmiaa
namespace Go.Proofs.Ytgmgpcaahanmiaa
open Go.RowKit
def FD.Mat (F : FD) (n : Nat) (xss : List (List Int)) : Prop := ∀ xs ∈ xss, xs.length = n ∧ ∀ x ∈ xs, 0 ≤ x ∧ x < F.n
def pivAt (rows : List (List Int)) (c t : Nat) : Nat := ((List.range rows.length).find? (fun i => decide (t ≤ i) && (nth (nthL rows i) c != 0))).getD rows.length
theorem pivAt_hit {rows : List (List Int)} {c t i : Nat} (h1 : t ≤ i) (h2 : i < rows.length) (h3 : nth (nthL rows i) c ≠ 0) (h4 : ∀ j, t ≤ j → j < i → nth (nthL rows j) c = 0) : pivAt rows c t = i := by
 have : (List.range rows.length).find? (fun i => decide (t ≤ i) && (nth (nthL rows i) c != 0)) = some i := by
  rw [List.find?_range_eq_some]
  refine ⟨by simp [h1, h3], List.mem_range.2 h2, fun j hj => ?_⟩
  by_cases h : t ≤ j
  · simp [h4 j h hj]
  · simp [h]
 rw [pivAt, this]; rfl
theorem pivAt_none {rows : List (List Int)} {c t : Nat} (h : ∀ j, t ≤ j → j < rows.length → nth (nthL rows j) c = 0) : pivAt rows c t = rows.length := by
 have : (List.range rows.length).find? (fun i => decide (t ≤ i) && (nth (nthL rows i) c != 0)) = none := by
  rw [List.find?_eq_none]
  intro j hj
  by_cases ht : t ≤ j
  · simp [h j ht (List.mem_range.1 hj)]
  · simp [ht]
 rw [pivAt, this]; rfl
section
variable (F : FD) (c t : Nat)
def elimTo (rows : List (List Int)) : Nat → List (List Int)
 | 0 => rows
 | j + 1 => if j = t then elimTo rows j else (elimTo rows j).set j (less F (nthL rows j) (nthL rows t) (nth (nthL rows j) c))
def topped (rows : List (List Int)) (i : Nat) : List (List Int) := (rows.set i (nthL rows t)).set t (scale F (F.inv (nth (nthL rows i) c)) (nthL rows i))
def redOne (rows : List (List Int)) (i : Nat) : List (List Int) := elimTo F c t (topped F c t rows i) rows.length
end
def stepR (F : FD) (s : List (List Int) × List Int) (c : Nat) : List (List Int) × List Int :=
 if s.2.length < s.1.length ∧ pivAt s.1 c s.2.length < s.1.length then (redOne F c s.2.length s.1 (pivAt s.1 c s.2.length), s.2 ++ [(c : Int)]) else s
def red (F : FD) (rows : List (List Int)) : Nat → List (List Int) × List Int
 | 0 => (rows, [])
 | c + 1 => stepR F (red F rows c) c
section
variable {F : FD} {c t : Nat} {rows : List (List Int)}
theorem elimTo_len (F : FD) (c t : Nat) (rows : List (List Int)) (j : Nat) : (elimTo F c t rows j).length = rows.length := by
 induction j with
 | zero => rfl
 | succ j ih =>
  rw [elimTo]
  split
  · exact ih
  · rw [List.length_set, ih]
theorem elimTo_nth (j : Nat) (hj : j ≤ rows.length) (i : Nat) : nthL (elimTo F c t rows j) i = if i < j ∧ i ≠ t then less F (nthL rows i) (nthL rows t) (nth (nthL rows i) c) else nthL rows i := by
 induction j with
 | zero => rw [if_neg (by omega)]; rfl
 | succ j ih =>
  have ih := ih (by omega)
  rw [elimTo]
  by_cases e : j = t
  · rw [if_pos e, ih]
    by_cases h : i < j ∧ i ≠ t
    · rw [if_pos h, if_pos (by omega)]
    · rw [if_neg h, if_neg (by omega)]
  · rw [if_neg e]
    by_cases h : i = j
    · subst h
      rw [nthL_set_same (by rw [elimTo_len]; omega), if_pos (by omega)]
    · rw [nthL_set_ne (Ne.symm h), ih]
      by_cases g : i < j ∧ i ≠ t
      · rw [if_pos g, if_pos (by omega)]
      · rw [if_neg g, if_neg (by omega)]
theorem topped_len (F : FD) (c t : Nat) (rows : List (List Int)) (i : Nat) : (topped F c t rows i).length = rows.length := by simp [topped]
theorem redOne_len (F : FD) (c t : Nat) (rows : List (List Int)) (i : Nat) : (redOne F c t rows i).length = rows.length := by rw [redOne, elimTo_len, topped_len]
theorem red_len (F : FD) (rows : List (List Int)) (c : Nat) : (red F rows c).1.length = rows.length := by
 induction c with
 | zero => rfl
 | succ c ih =>
  rw [red, stepR]
  split
  · rw [redOne_len, ih]
  · exact ih
theorem red_piv (F : FD) (rows : List (List Int)) (c : Nat) : (red F rows c).2.length ≤ rows.length := by
 induction c with
 | zero => simp [red]
 | succ c ih =>
  rw [red, stepR]
  split
  · rename_i h
    rw [red_len] at h
    rw [List.length_append]; simp; omega
  · exact ih
theorem red_full (h : ¬ (red F rows c).2.length < rows.length) {d : Nat} (hd : c ≤ d) : red F rows d = red F rows c := by
 induction d with
 | zero => obtain rfl : c = 0 := by omega
           rfl
 | succ d ih =>
  by_cases e : c = d + 1
  · rw [e]
  · rw [red, ih (by omega), stepR, if_neg (by rw [red_len]; exact fun h2 => h h2.1)]
theorem Mat_nth {n : Nat} (h : F.Mat n rows) {i : Nat} (hi : i < rows.length) : (nthL rows i).length = n ∧ ∀ x ∈ nthL rows i, 0 ≤ x ∧ x < F.n := h _ (nthL_mem hi)
theorem Mat_of {n : Nat} (h : ∀ i, i < rows.length → (nthL rows i).length = n ∧ ∀ x ∈ nthL rows i, 0 ≤ x ∧ x < F.n) : F.Mat n rows := by
 intro xs hx
 obtain ⟨i, hi, rfl⟩ := List.getElem_of_mem hx
 have := h i hi
 rwa [nthL_lt hi] at this
theorem scale_el (ok : F.Ok) (s : Int) (xs : List Int) : ∀ x ∈ scale F s xs, 0 ≤ x ∧ x < F.n := by
 intro x hx
 obtain ⟨y, _, rfl⟩ := List.mem_map.1 hx
 exact mul_bd ok _ _
theorem less_el (ok : F.Ok) (xs ys : List Int) (s : Int) : ∀ x ∈ less F xs ys s, 0 ≤ x ∧ x < F.n := by
 intro x hx
 obtain ⟨i, _, rfl⟩ := List.mem_map.1 hx
 exact sub_bd ok _ _
theorem topped_Mat (ok : F.Ok) {n : Nat} (h : F.Mat n rows) {i : Nat} (hi : i < rows.length) (ht : t < rows.length) : F.Mat n (topped F c t rows i) := by
 refine Mat_of fun j hj => ?_
 rw [topped_len] at hj
 unfold topped
 by_cases e : j = t
 · subst e
   rw [nthL_set_same (by rw [List.length_set]; exact hj)]
   exact ⟨by rw [scale_len]; exact (Mat_nth h hi).1, scale_el ok _ _⟩
 · rw [nthL_set_ne (Ne.symm e)]
   by_cases e2 : j = i
   · subst e2
     rw [nthL_set_same hi]
     exact Mat_nth h ht
   · rw [nthL_set_ne (Ne.symm e2)]
     exact Mat_nth h hj
theorem elimTo_Mat (ok : F.Ok) {n : Nat} (h : F.Mat n rows) (j : Nat) (hj : j ≤ rows.length) : F.Mat n (elimTo F c t rows j) := by
 refine Mat_of fun i hi => ?_
 rw [elimTo_len] at hi
 rw [elimTo_nth j hj]
 split
 · exact ⟨by rw [less_len]; exact (Mat_nth h hi).1, less_el ok _ _ _⟩
 · exact Mat_nth h hi
theorem red_Mat (ok : F.Ok) {n : Nat} (h : F.Mat n rows) (c : Nat) : F.Mat n (red F rows c).1 := by
 induction c with
 | zero => exact h
 | succ c ih =>
  rw [red, stepR]
  split
  · rename_i hh
    rw [redOne]
    exact elimTo_Mat ok (topped_Mat ok ih hh.2 hh.1) _ (by rw [topped_len]; exact Nat.le_refl _)
  · exact ih
end
end Go.Proofs.Ytgmgpcaahanmiaa
namespace Go.Proofs.Ytgmgpcaahanmiaa
open Go.RowKit
def firstOfL (p : List Int → Bool) (xss : List (List Int)) : Int := match xss.findIdx? p with
 | some i => i
 | none => -1
theorem firstOfL_yes {p : List Int → Bool} {xss : List (List Int)} {k : Nat} (hk : k < xss.length) (hp : p (nthL xss k) = true) (h : ∀ j, j < k → p (nthL xss j) = false) : firstOfL p xss = k := by
 have : xss.findIdx? p = some k := by
  rw [List.findIdx?_eq_some_iff_getElem]
  refine ⟨hk, by rw [← nthL_lt hk]; exact hp, fun j hj => ?_⟩
  have := h j hj
  rw [nthL_lt (by omega)] at this
  rw [this]; simp
 rw [firstOfL, this]
theorem firstOfL_no {p : List Int → Bool} {xss : List (List Int)} (h : ∀ j, j < xss.length → p (nthL xss j) = false) : firstOfL p xss = -1 := by
 have : xss.findIdx? p = none := by
  rw [List.findIdx?_eq_none_iff]
  intro x hx
  obtain ⟨i, hi, rfl⟩ := List.getElem_of_mem hx
  have := h i hi
  rwa [nthL_lt hi] at this
 rw [firstOfL, this]
def notAt (c : Nat) (xs : List Int) : Bool := nth xs c != 0
theorem nthL_drop (xss : List (List Int)) (t j : Nat) : nthL (xss.drop t) j = nthL xss (t + j) := by simp [nthL]
theorem firstOfL_piv (rows : List (List Int)) (c t : Nat) (ht : t ≤ rows.length) :
    (firstOfL (notAt c) (rows.drop t) = -1 ∧ pivAt rows c t = rows.length ∧ ∀ j, t ≤ j → j < rows.length → nth (nthL rows j) c = 0) ∨
    ∃ i : Nat, firstOfL (notAt c) (rows.drop t) = i ∧ t + i < rows.length ∧ pivAt rows c t = t + i ∧ nth (nthL rows (t + i)) c ≠ 0 := by
 cases h : (rows.drop t).findIdx? (notAt c) with
 | none =>
  rw [List.findIdx?_eq_none_iff] at h
  have hz : ∀ j, t ≤ j → j < rows.length → nth (nthL rows j) c = 0 := by
   intro j h1 h2
   have h3 : j - t < (rows.drop t).length := by rw [List.length_drop]; omega
   have := h _ (nthL_mem h3)
   rw [nthL_drop, show t + (j - t) = j by omega] at this
   simpa [notAt] using this
  exact .inl ⟨by rw [firstOfL, List.findIdx?_eq_none_iff.2 h], pivAt_none hz, hz⟩
 | some i =>
  have h0 := h
  rw [List.findIdx?_eq_some_iff_getElem] at h
  obtain ⟨hi, hp, hj⟩ := h
  have hil : t + i < rows.length := by rw [List.length_drop] at hi; omega
  rw [← nthL_lt hi, nthL_drop] at hp
  have hne : nth (nthL rows (t + i)) c ≠ 0 := by simpa [notAt] using hp
  refine .inr ⟨i, by rw [firstOfL, h0], hil, pivAt_hit (by omega) hil hne fun j h1 h2 => ?_, hne⟩
  have h3 := hj (j - t) (by omega)
  have h4 : j - t < (rows.drop t).length := by rw [List.length_drop]; omega
  rw [← nthL_lt h4, nthL_drop, show t + (j - t) = j by omega] at h3
  simpa [notAt] using h3
theorem reduce1_any (c gq : Nat) (a : Option Addr) (cp : Nat) (xs : List Int) (w : World) (hx : Rd w a xs) (hc : c < xs.length) (hq : w.cell? ⟨gq, 0, none⟩ = some (.int .i64 c)) :
    Calls Try.prog 214 #[.slice a xs.length cp, .pointer (some ⟨gq, 0, none⟩)] w fun e w' => e = .returned (.bool (notAt c xs)) ∧ w = w' := by
 obtain ⟨b1, o1, rfl, _, hcc⟩ := hx.at_ (by omega)
 have h1 := hcc c hc
 have hxl := hx.len
 unfold notAt
 generalize nth xs c = x at h1
 clear hcc hx
 go_enter Try.func214, Try.ntmps214
 go_wp2
 go_ret
 exact ⟨rfl, rfl⟩
theorem idx_reduce (c gq n : Nat) (a : Option Addr) (cp : Nat) (xss : List (List Int)) (w : World) (hx : RdS w a xss) (hn : ∀ xs ∈ xss, xs.length = n) (hcn : c < n) (hq : w.cell? ⟨gq, 0, none⟩ = some (.int .i64 c)) :
    Calls Try.prog 139 #[.slice a xss.length cp, .func (.func 214) #[] #[.pointer (some ⟨gq, 0, none⟩)]] w fun e w' => e = .returned (.int .i64 (firstOfL (notAt c) xss)) ∧ w = w' := by
 have hxl := hx.len
 have hq0 := hq
 go_enter Try.func139, Try.ntmps139
 go_wp2_with fail
 go_loop [8] (fun i => ∃ k : Nat, i = .int .i64 k ∧ k ≤ xss.length ∧ Hid (∀ j, j < k → notAt c (nthL xss j) = false)) (fun i => xss.length - (intOf i).toNat)
 case atStart => exact ⟨0, rfl, Nat.zero_le _, fun j hj => by omega⟩
 case round =>
  obtain ⟨k, rfl, hk, hq⟩ := hrel
  by_cases hkl : k < xss.length
  · obtain ⟨b1, o1, rfl, _, hc⟩ := hx.at_ (by omega)
    obtain ⟨ai, ci, h1, hr1⟩ := hc k hkl
    have hln := hn _ (nthL_mem hkl)
    obtain ⟨r, hr⟩ : ∃ r, notAt c (nthL xss k) = r := ⟨_, rfl⟩
    have HR := Lib.hid hr
    have hcl := reduce1_any c gq ai ci (nthL xss k) w hr1 (by omega) hq0
    rw [hr, hln] at hcl
    rw [hln] at h1
    have HC := hide hcl
    clear hr hcl hc hx hr1 hln hn
    go_wp2_with fail
    refine (unhide HC).mono ?_
    rintro e w1 ⟨rfl, rfl⟩
    cases r
    · go_wp2
      go_round
      case rel =>
       refine ⟨k + 1, by go_num, by omega, fun j hj => ?_⟩
       rcases Nat.lt_succ_iff_lt_or_eq.1 hj with h | rfl
       · exact hq.out j h
       · exact HR.out
      case measure => simp [intOf]; omega
    · go_wp2
      go_ret
      exact ⟨ret_int (firstOfL_yes hkl HR.out hq.out).symm, rfl⟩
  · go_wp2
    go_ret
    exact ⟨ret_int (firstOfL_no (fun j hj => hq.out j (by omega))).symm, rfl⟩
end Go.Proofs.Ytgmgpcaahanmiaa
namespace Go.Proofs.Ytgmgpcaahanmiaa
open Go.RowKit
theorem anyL_firstOfL {p : List Int → Bool} {xss : List (List Int)} : xss.any p = decide (0 ≤ firstOfL p xss) := by
 cases h : xss.findIdx? p with
 | none =>
  rw [firstOfL, h, List.any_eq_false.2 fun x hx => by rw [List.findIdx?_eq_none_iff.1 h x hx]; simp]
  rfl
 | some i =>
  have h0 := h
  rw [List.findIdx?_eq_some_iff_getElem] at h
  obtain ⟨hi, hp, _⟩ := h
  rw [firstOfL, h0, List.any_eq_true.2 ⟨_, List.getElem_mem hi, hp⟩]
  simp
theorem idxI0 (fn : Nat) (p : Int → Bool) (a : Option Addr) (cp : Nat) (xs : List Int) (w : World) (hent : ∀ (args : Array Value) (w : World), (callFunc fn args).run Try.prog w = .ok (.enter fn args) w) (hx : Rd w a xs) (hf : ∀ (k : Nat) (W : World), k < xs.length → Below w.heap.size w W → Calls Try.prog fn #[.int .i64 (nth xs k)] W fun e W' => e = .returned (.bool (p (nth xs k))) ∧ Below W.heap.size W W') :
    Calls Try.prog 92 #[.slice a xs.length cp, .func (.func fn) #[] #[]] w fun e w' => e = .returned (.int .i64 (firstOf p xs)) ∧ Below w.heap.size w w' := by
 have hxl := hx.len
 have HF := hide hf
 clear hf
 go_enter Try.func92, Try.ntmps92
 go_wp2_with fail
 go_loopw [8] (fun i wr => ∃ k : Nat, i = .int .i64 k ∧ k ≤ xs.length ∧ Hid (∀ j, j < k → p (nth xs j) = false) ∧ Below w.heap.size w wr) (fun i _ => xs.length - (intOf i).toNat)
 case atStart => exact ⟨0, rfl, Nat.zero_le _, fun j hj => by omega, Below.refl _ _⟩
 case round =>
  obtain ⟨k, rfl, hk, hq, hb⟩ := hrel
  have hsz := hb.size
  by_cases hkl : k < xs.length
  · obtain ⟨b1, o1, rfl, _, hc⟩ := (hx.below hb).at_ (by omega)
    have h1 := hc k hkl
    have hcl := unhide HF k wr hkl hb
    obtain ⟨r, hr⟩ : ∃ r, p (nth xs k) = r := ⟨_, rfl⟩
    have HR := Lib.hid hr
    rw [hr] at hcl
    generalize nth xs k = y at h1 hcl
    have HC := hide hcl
    clear hr hcl hc
    go_wp2_with fail
    refine (unhide HC).mono ?_
    rintro e w1 ⟨rfl, b1⟩
    have hb1 := hb.trans (b1.mono hsz)
    cases r
    · go_wp2
      go_roundw
      case rel =>
       refine ⟨k + 1, by go_num, by omega, fun j hj => ?_, hb1⟩
       rcases Nat.lt_succ_iff_lt_or_eq.1 hj with h | rfl
       · exact hq.out j h
       · exact HR.out
      case measure => simp [intOf]; omega
    · go_wp2
      go_ret
      exact ⟨ret_int (firstOf_yes hkl HR.out hq.out).symm, hb1⟩
  · go_wp2
    go_ret
    exact ⟨ret_int (firstOf_no (fun j hj => hq.out j (by omega))).symm, hb⟩
theorem hasI0 (fn : Nat) (p : Int → Bool) (a : Option Addr) (cp : Nat) (xs : List Int) (w : World) (hent : ∀ (args : Array Value) (w : World), (callFunc fn args).run Try.prog w = .ok (.enter fn args) w) (hx : Rd w a xs) (hf : ∀ (k : Nat) (W : World), k < xs.length → Below w.heap.size w W → Calls Try.prog fn #[.int .i64 (nth xs k)] W fun e W' => e = .returned (.bool (p (nth xs k))) ∧ Below W.heap.size W W') :
    Calls Try.prog 171 #[.slice a xs.length cp, .func (.func fn) #[] #[]] w fun e w' => e = .returned (.bool (xs.any p)) ∧ Below w.heap.size w w' := by
 have hc := idxI0 fn p a cp xs w hent hx hf
 clear hent
 rw [any_firstOf]
 generalize hf : firstOf p xs = r at hc
 have HF := Lib.hid hf
 have HC := hide hc
 clear hf hc
 by_cases h0 : 0 ≤ r
 · go_enter Try.func171, Try.ntmps171
   go_wp2_with fail
   refine (unhide HC).mono ?_
   rintro e w1 ⟨rfl, b1⟩
   go_wp2
   go_ret
   exact ⟨ret_bool (by simp [h0]), b1⟩
 · go_enter Try.func171, Try.ntmps171
   go_wp2_with fail
   refine (unhide HC).mono ?_
   rintro e w1 ⟨rfl, b1⟩
   go_wp2
   go_ret
   exact ⟨ret_bool (by simp [show ¬ 0 ≤ r by omega]), b1⟩
theorem idxI1 (fn : Nat) (p : Int → Bool) (q0 : Nat) (a : Option Addr) (cp : Nat) (xs : List Int) (w : World) (hent : ∀ (args : Array Value) (w : World), (callFunc fn args).run Try.prog w = .ok (.enter fn args) w) (hx : Rd w a xs) (hf : ∀ (k : Nat) (W : World), k < xs.length → Below w.heap.size w W → Calls Try.prog fn #[.int .i64 (nth xs k), .pointer (some ⟨q0, 0, none⟩)] W fun e W' => e = .returned (.bool (p (nth xs k))) ∧ Below W.heap.size W W') :
    Calls Try.prog 92 #[.slice a xs.length cp, .func (.func fn) #[] #[.pointer (some ⟨q0, 0, none⟩)]] w fun e w' => e = .returned (.int .i64 (firstOf p xs)) ∧ Below w.heap.size w w' := by
 have hxl := hx.len
 have HF := hide hf
 clear hf
 go_enter Try.func92, Try.ntmps92
 go_wp2_with fail
 go_loopw [8] (fun i wr => ∃ k : Nat, i = .int .i64 k ∧ k ≤ xs.length ∧ Hid (∀ j, j < k → p (nth xs j) = false) ∧ Below w.heap.size w wr) (fun i _ => xs.length - (intOf i).toNat)
 case atStart => exact ⟨0, rfl, Nat.zero_le _, fun j hj => by omega, Below.refl _ _⟩
 case round =>
  obtain ⟨k, rfl, hk, hq, hb⟩ := hrel
  have hsz := hb.size
  by_cases hkl : k < xs.length
  · obtain ⟨b1, o1, rfl, _, hc⟩ := (hx.below hb).at_ (by omega)
    have h1 := hc k hkl
    have hcl := unhide HF k wr hkl hb
    obtain ⟨r, hr⟩ : ∃ r, p (nth xs k) = r := ⟨_, rfl⟩
    have HR := Lib.hid hr
    rw [hr] at hcl
    generalize nth xs k = y at h1 hcl
    have HC := hide hcl
    clear hr hcl hc
    go_wp2_with fail
    refine (unhide HC).mono ?_
    rintro e w1 ⟨rfl, b1⟩
    have hb1 := hb.trans (b1.mono hsz)
    cases r
    · go_wp2
      go_roundw
      case rel =>
       refine ⟨k + 1, by go_num, by omega, fun j hj => ?_, hb1⟩
       rcases Nat.lt_succ_iff_lt_or_eq.1 hj with h | rfl
       · exact hq.out j h
       · exact HR.out
      case measure => simp [intOf]; omega
    · go_wp2
      go_ret
      exact ⟨ret_int (firstOf_yes hkl HR.out hq.out).symm, hb1⟩
  · go_wp2
    go_ret
    exact ⟨ret_int (firstOf_no (fun j hj => hq.out j (by omega))).symm, hb⟩
theorem hasI1 (fn : Nat) (p : Int → Bool) (q0 : Nat) (a : Option Addr) (cp : Nat) (xs : List Int) (w : World) (hent : ∀ (args : Array Value) (w : World), (callFunc fn args).run Try.prog w = .ok (.enter fn args) w) (hx : Rd w a xs) (hf : ∀ (k : Nat) (W : World), k < xs.length → Below w.heap.size w W → Calls Try.prog fn #[.int .i64 (nth xs k), .pointer (some ⟨q0, 0, none⟩)] W fun e W' => e = .returned (.bool (p (nth xs k))) ∧ Below W.heap.size W W') :
    Calls Try.prog 171 #[.slice a xs.length cp, .func (.func fn) #[] #[.pointer (some ⟨q0, 0, none⟩)]] w fun e w' => e = .returned (.bool (xs.any p)) ∧ Below w.heap.size w w' := by
 have hc := idxI1 fn p q0 a cp xs w hent hx hf
 clear hent
 rw [any_firstOf]
 generalize hf : firstOf p xs = r at hc
 have HF := Lib.hid hf
 have HC := hide hc
 clear hf hc
 by_cases h0 : 0 ≤ r
 · go_enter Try.func171, Try.ntmps171
   go_wp2_with fail
   refine (unhide HC).mono ?_
   rintro e w1 ⟨rfl, b1⟩
   go_wp2
   go_ret
   exact ⟨ret_bool (by simp [h0]), b1⟩
 · go_enter Try.func171, Try.ntmps171
   go_wp2_with fail
   refine (unhide HC).mono ?_
   rintro e w1 ⟨rfl, b1⟩
   go_wp2
   go_ret
   exact ⟨ret_bool (by simp [show ¬ 0 ≤ r by omega]), b1⟩
theorem idxI2 (fn : Nat) (p : Int → Bool) (q0 q1 : Nat) (a : Option Addr) (cp : Nat) (xs : List Int) (w : World) (hent : ∀ (args : Array Value) (w : World), (callFunc fn args).run Try.prog w = .ok (.enter fn args) w) (hx : Rd w a xs) (hf : ∀ (k : Nat) (W : World), k < xs.length → Below w.heap.size w W → Calls Try.prog fn #[.int .i64 (nth xs k), .pointer (some ⟨q0, 0, none⟩), .pointer (some ⟨q1, 0, none⟩)] W fun e W' => e = .returned (.bool (p (nth xs k))) ∧ Below W.heap.size W W') :
    Calls Try.prog 92 #[.slice a xs.length cp, .func (.func fn) #[] #[.pointer (some ⟨q0, 0, none⟩), .pointer (some ⟨q1, 0, none⟩)]] w fun e w' => e = .returned (.int .i64 (firstOf p xs)) ∧ Below w.heap.size w w' := by
 have hxl := hx.len
 have HF := hide hf
 clear hf
 go_enter Try.func92, Try.ntmps92
 go_wp2_with fail
 go_loopw [8] (fun i wr => ∃ k : Nat, i = .int .i64 k ∧ k ≤ xs.length ∧ Hid (∀ j, j < k → p (nth xs j) = false) ∧ Below w.heap.size w wr) (fun i _ => xs.length - (intOf i).toNat)
 case atStart => exact ⟨0, rfl, Nat.zero_le _, fun j hj => by omega, Below.refl _ _⟩
 case round =>
  obtain ⟨k, rfl, hk, hq, hb⟩ := hrel
  have hsz := hb.size
  by_cases hkl : k < xs.length
  · obtain ⟨b1, o1, rfl, _, hc⟩ := (hx.below hb).at_ (by omega)
    have h1 := hc k hkl
    have hcl := unhide HF k wr hkl hb
    obtain ⟨r, hr⟩ : ∃ r, p (nth xs k) = r := ⟨_, rfl⟩
    have HR := Lib.hid hr
    rw [hr] at hcl
    generalize nth xs k = y at h1 hcl
    have HC := hide hcl
    clear hr hcl hc
    go_wp2_with fail
    refine (unhide HC).mono ?_
    rintro e w1 ⟨rfl, b1⟩
    have hb1 := hb.trans (b1.mono hsz)
    cases r
    · go_wp2
      go_roundw
      case rel =>
       refine ⟨k + 1, by go_num, by omega, fun j hj => ?_, hb1⟩
       rcases Nat.lt_succ_iff_lt_or_eq.1 hj with h | rfl
       · exact hq.out j h
       · exact HR.out
      case measure => simp [intOf]; omega
    · go_wp2
      go_ret
      exact ⟨ret_int (firstOf_yes hkl HR.out hq.out).symm, hb1⟩
  · go_wp2
    go_ret
    exact ⟨ret_int (firstOf_no (fun j hj => hq.out j (by omega))).symm, hb⟩
theorem hasI2 (fn : Nat) (p : Int → Bool) (q0 q1 : Nat) (a : Option Addr) (cp : Nat) (xs : List Int) (w : World) (hent : ∀ (args : Array Value) (w : World), (callFunc fn args).run Try.prog w = .ok (.enter fn args) w) (hx : Rd w a xs) (hf : ∀ (k : Nat) (W : World), k < xs.length → Below w.heap.size w W → Calls Try.prog fn #[.int .i64 (nth xs k), .pointer (some ⟨q0, 0, none⟩), .pointer (some ⟨q1, 0, none⟩)] W fun e W' => e = .returned (.bool (p (nth xs k))) ∧ Below W.heap.size W W') :
    Calls Try.prog 171 #[.slice a xs.length cp, .func (.func fn) #[] #[.pointer (some ⟨q0, 0, none⟩), .pointer (some ⟨q1, 0, none⟩)]] w fun e w' => e = .returned (.bool (xs.any p)) ∧ Below w.heap.size w w' := by
 have hc := idxI2 fn p q0 q1 a cp xs w hent hx hf
 clear hent
 rw [any_firstOf]
 generalize hf : firstOf p xs = r at hc
 have HF := Lib.hid hf
 have HC := hide hc
 clear hf hc
 by_cases h0 : 0 ≤ r
 · go_enter Try.func171, Try.ntmps171
   go_wp2_with fail
   refine (unhide HC).mono ?_
   rintro e w1 ⟨rfl, b1⟩
   go_wp2
   go_ret
   exact ⟨ret_bool (by simp [h0]), b1⟩
 · go_enter Try.func171, Try.ntmps171
   go_wp2_with fail
   refine (unhide HC).mono ?_
   rintro e w1 ⟨rfl, b1⟩
   go_wp2
   go_ret
   exact ⟨ret_bool (by simp [show ¬ 0 ≤ r by omega]), b1⟩
theorem idxL0 (fn : Nat) (p : List Int → Bool) (a : Option Addr) (cp : Nat) (xss : List (List Int)) (w : World) (hent : ∀ (args : Array Value) (w : World), (callFunc fn args).run Try.prog w = .ok (.enter fn args) w) (hx : RdS w a xss) (hf : ∀ (k : Nat) (ai : Option Addr) (ci : Nat) (W : World), k < xss.length → Rd W ai (nthL xss k) → Below w.heap.size w W → Calls Try.prog fn #[.slice ai (nthL xss k).length ci] W fun e W' => e = .returned (.bool (p (nthL xss k))) ∧ Below W.heap.size W W') :
    Calls Try.prog 139 #[.slice a xss.length cp, .func (.func fn) #[] #[]] w fun e w' => e = .returned (.int .i64 (firstOfL p xss)) ∧ Below w.heap.size w w' := by
 have hxl := hx.len
 have HF := hide hf
 clear hf
 go_enter Try.func139, Try.ntmps139
 go_wp2_with fail
 go_loopw [8] (fun i wr => ∃ k : Nat, i = .int .i64 k ∧ k ≤ xss.length ∧ Hid (∀ j, j < k → p (nthL xss j) = false) ∧ Below w.heap.size w wr) (fun i _ => xss.length - (intOf i).toNat)
 case atStart => exact ⟨0, rfl, Nat.zero_le _, fun j hj => by omega, Below.refl _ _⟩
 case round =>
  obtain ⟨k, rfl, hk, hq, hb⟩ := hrel
  have hsz := hb.size
  by_cases hkl : k < xss.length
  · obtain ⟨b1, o1, rfl, _, hc⟩ := (hx.below hb).at_ (by omega)
    obtain ⟨ai, ci, h1, hr1⟩ := hc k hkl
    have hcl := unhide HF k ai ci wr hkl hr1 hb
    obtain ⟨r, hr⟩ : ∃ r, p (nthL xss k) = r := ⟨_, rfl⟩
    have HR := Lib.hid hr
    rw [hr] at hcl
    generalize nthL xss k = row at h1 hcl hr1
    have HC := hide hcl
    clear hr hcl hc hr1
    go_wp2_with fail
    refine (unhide HC).mono ?_
    rintro e w1 ⟨rfl, b1⟩
    have hb1 := hb.trans (b1.mono hsz)
    cases r
    · go_wp2
      go_roundw
      case rel =>
       refine ⟨k + 1, by go_num, by omega, fun j hj => ?_, hb1⟩
       rcases Nat.lt_succ_iff_lt_or_eq.1 hj with h | rfl
       · exact hq.out j h
       · exact HR.out
      case measure => simp [intOf]; omega
    · go_wp2
      go_ret
      exact ⟨ret_int (firstOfL_yes hkl HR.out hq.out).symm, hb1⟩
  · go_wp2
    go_ret
    exact ⟨ret_int (firstOfL_no (fun j hj => hq.out j (by omega))).symm, hb⟩
theorem hasL0 (fn : Nat) (p : List Int → Bool) (a : Option Addr) (cp : Nat) (xss : List (List Int)) (w : World) (hent : ∀ (args : Array Value) (w : World), (callFunc fn args).run Try.prog w = .ok (.enter fn args) w) (hx : RdS w a xss) (hf : ∀ (k : Nat) (ai : Option Addr) (ci : Nat) (W : World), k < xss.length → Rd W ai (nthL xss k) → Below w.heap.size w W → Calls Try.prog fn #[.slice ai (nthL xss k).length ci] W fun e W' => e = .returned (.bool (p (nthL xss k))) ∧ Below W.heap.size W W') :
    Calls Try.prog 222 #[.slice a xss.length cp, .func (.func fn) #[] #[]] w fun e w' => e = .returned (.bool (xss.any p)) ∧ Below w.heap.size w w' := by
 have hc := idxL0 fn p a cp xss w hent hx hf
 clear hent
 rw [anyL_firstOfL]
 generalize hf : firstOfL p xss = r at hc
 have HF := Lib.hid hf
 have HC := hide hc
 clear hf hc
 by_cases h0 : 0 ≤ r
 · go_enter Try.func222, Try.ntmps222
   go_wp2_with fail
   refine (unhide HC).mono ?_
   rintro e w1 ⟨rfl, b1⟩
   go_wp2
   go_ret
   exact ⟨ret_bool (by simp [h0]), b1⟩
 · go_enter Try.func222, Try.ntmps222
   go_wp2_with fail
   refine (unhide HC).mono ?_
   rintro e w1 ⟨rfl, b1⟩
   go_wp2
   go_ret
   exact ⟨ret_bool (by simp [show ¬ 0 ≤ r by omega]), b1⟩
theorem idxL1 (fn : Nat) (p : List Int → Bool) (q0 : Nat) (a : Option Addr) (cp : Nat) (xss : List (List Int)) (w : World) (hent : ∀ (args : Array Value) (w : World), (callFunc fn args).run Try.prog w = .ok (.enter fn args) w) (hx : RdS w a xss) (hf : ∀ (k : Nat) (ai : Option Addr) (ci : Nat) (W : World), k < xss.length → Rd W ai (nthL xss k) → Below w.heap.size w W → Calls Try.prog fn #[.slice ai (nthL xss k).length ci, .pointer (some ⟨q0, 0, none⟩)] W fun e W' => e = .returned (.bool (p (nthL xss k))) ∧ Below W.heap.size W W') :
    Calls Try.prog 139 #[.slice a xss.length cp, .func (.func fn) #[] #[.pointer (some ⟨q0, 0, none⟩)]] w fun e w' => e = .returned (.int .i64 (firstOfL p xss)) ∧ Below w.heap.size w w' := by
 have hxl := hx.len
 have HF := hide hf
 clear hf
 go_enter Try.func139, Try.ntmps139
 go_wp2_with fail
 go_loopw [8] (fun i wr => ∃ k : Nat, i = .int .i64 k ∧ k ≤ xss.length ∧ Hid (∀ j, j < k → p (nthL xss j) = false) ∧ Below w.heap.size w wr) (fun i _ => xss.length - (intOf i).toNat)
 case atStart => exact ⟨0, rfl, Nat.zero_le _, fun j hj => by omega, Below.refl _ _⟩
 case round =>
  obtain ⟨k, rfl, hk, hq, hb⟩ := hrel
  have hsz := hb.size
  by_cases hkl : k < xss.length
  · obtain ⟨b1, o1, rfl, _, hc⟩ := (hx.below hb).at_ (by omega)
    obtain ⟨ai, ci, h1, hr1⟩ := hc k hkl
    have hcl := unhide HF k ai ci wr hkl hr1 hb
    obtain ⟨r, hr⟩ : ∃ r, p (nthL xss k) = r := ⟨_, rfl⟩
    have HR := Lib.hid hr
    rw [hr] at hcl
    generalize nthL xss k = row at h1 hcl hr1
    have HC := hide hcl
    clear hr hcl hc hr1
    go_wp2_with fail
    refine (unhide HC).mono ?_
    rintro e w1 ⟨rfl, b1⟩
    have hb1 := hb.trans (b1.mono hsz)
    cases r
    · go_wp2
      go_roundw
      case rel =>
       refine ⟨k + 1, by go_num, by omega, fun j hj => ?_, hb1⟩
       rcases Nat.lt_succ_iff_lt_or_eq.1 hj with h | rfl
       · exact hq.out j h
       · exact HR.out
      case measure => simp [intOf]; omega
    · go_wp2
      go_ret
      exact ⟨ret_int (firstOfL_yes hkl HR.out hq.out).symm, hb1⟩
  · go_wp2
    go_ret
    exact ⟨ret_int (firstOfL_no (fun j hj => hq.out j (by omega))).symm, hb⟩
theorem hasL1 (fn : Nat) (p : List Int → Bool) (q0 : Nat) (a : Option Addr) (cp : Nat) (xss : List (List Int)) (w : World) (hent : ∀ (args : Array Value) (w : World), (callFunc fn args).run Try.prog w = .ok (.enter fn args) w) (hx : RdS w a xss) (hf : ∀ (k : Nat) (ai : Option Addr) (ci : Nat) (W : World), k < xss.length → Rd W ai (nthL xss k) → Below w.heap.size w W → Calls Try.prog fn #[.slice ai (nthL xss k).length ci, .pointer (some ⟨q0, 0, none⟩)] W fun e W' => e = .returned (.bool (p (nthL xss k))) ∧ Below W.heap.size W W') :
    Calls Try.prog 222 #[.slice a xss.length cp, .func (.func fn) #[] #[.pointer (some ⟨q0, 0, none⟩)]] w fun e w' => e = .returned (.bool (xss.any p)) ∧ Below w.heap.size w w' := by
 have hc := idxL1 fn p q0 a cp xss w hent hx hf
 clear hent
 rw [anyL_firstOfL]
 generalize hf : firstOfL p xss = r at hc
 have HF := Lib.hid hf
 have HC := hide hc
 clear hf hc
 by_cases h0 : 0 ≤ r
 · go_enter Try.func222, Try.ntmps222
   go_wp2_with fail
   refine (unhide HC).mono ?_
   rintro e w1 ⟨rfl, b1⟩
   go_wp2
   go_ret
   exact ⟨ret_bool (by simp [h0]), b1⟩
 · go_enter Try.func222, Try.ntmps222
   go_wp2_with fail
   refine (unhide HC).mono ?_
   rintro e w1 ⟨rfl, b1⟩
   go_wp2
   go_ret
   exact ⟨ret_bool (by simp [show ¬ 0 ≤ r by omega]), b1⟩
theorem idxL2 (fn : Nat) (p : List Int → Bool) (q0 q1 : Nat) (a : Option Addr) (cp : Nat) (xss : List (List Int)) (w : World) (hent : ∀ (args : Array Value) (w : World), (callFunc fn args).run Try.prog w = .ok (.enter fn args) w) (hx : RdS w a xss) (hf : ∀ (k : Nat) (ai : Option Addr) (ci : Nat) (W : World), k < xss.length → Rd W ai (nthL xss k) → Below w.heap.size w W → Calls Try.prog fn #[.slice ai (nthL xss k).length ci, .pointer (some ⟨q0, 0, none⟩), .pointer (some ⟨q1, 0, none⟩)] W fun e W' => e = .returned (.bool (p (nthL xss k))) ∧ Below W.heap.size W W') :
    Calls Try.prog 139 #[.slice a xss.length cp, .func (.func fn) #[] #[.pointer (some ⟨q0, 0, none⟩), .pointer (some ⟨q1, 0, none⟩)]] w fun e w' => e = .returned (.int .i64 (firstOfL p xss)) ∧ Below w.heap.size w w' := by
 have hxl := hx.len
 have HF := hide hf
 clear hf
 go_enter Try.func139, Try.ntmps139
 go_wp2_with fail
 go_loopw [8] (fun i wr => ∃ k : Nat, i = .int .i64 k ∧ k ≤ xss.length ∧ Hid (∀ j, j < k → p (nthL xss j) = false) ∧ Below w.heap.size w wr) (fun i _ => xss.length - (intOf i).toNat)
 case atStart => exact ⟨0, rfl, Nat.zero_le _, fun j hj => by omega, Below.refl _ _⟩
 case round =>
  obtain ⟨k, rfl, hk, hq, hb⟩ := hrel
  have hsz := hb.size
  by_cases hkl : k < xss.length
  · obtain ⟨b1, o1, rfl, _, hc⟩ := (hx.below hb).at_ (by omega)
    obtain ⟨ai, ci, h1, hr1⟩ := hc k hkl
    have hcl := unhide HF k ai ci wr hkl hr1 hb
    obtain ⟨r, hr⟩ : ∃ r, p (nthL xss k) = r := ⟨_, rfl⟩
    have HR := Lib.hid hr
    rw [hr] at hcl
    generalize nthL xss k = row at h1 hcl hr1
    have HC := hide hcl
    clear hr hcl hc hr1
    go_wp2_with fail
    refine (unhide HC).mono ?_
    rintro e w1 ⟨rfl, b1⟩
    have hb1 := hb.trans (b1.mono hsz)
    cases r
    · go_wp2
      go_roundw
      case rel =>
       refine ⟨k + 1, by go_num, by omega, fun j hj => ?_, hb1⟩
       rcases Nat.lt_succ_iff_lt_or_eq.1 hj with h | rfl
       · exact hq.out j h
       · exact HR.out
      case measure => simp [intOf]; omega
    · go_wp2
      go_ret
      exact ⟨ret_int (firstOfL_yes hkl HR.out hq.out).symm, hb1⟩
  · go_wp2
    go_ret
    exact ⟨ret_int (firstOfL_no (fun j hj => hq.out j (by omega))).symm, hb⟩
theorem hasL2 (fn : Nat) (p : List Int → Bool) (q0 q1 : Nat) (a : Option Addr) (cp : Nat) (xss : List (List Int)) (w : World) (hent : ∀ (args : Array Value) (w : World), (callFunc fn args).run Try.prog w = .ok (.enter fn args) w) (hx : RdS w a xss) (hf : ∀ (k : Nat) (ai : Option Addr) (ci : Nat) (W : World), k < xss.length → Rd W ai (nthL xss k) → Below w.heap.size w W → Calls Try.prog fn #[.slice ai (nthL xss k).length ci, .pointer (some ⟨q0, 0, none⟩), .pointer (some ⟨q1, 0, none⟩)] W fun e W' => e = .returned (.bool (p (nthL xss k))) ∧ Below W.heap.size W W') :
    Calls Try.prog 222 #[.slice a xss.length cp, .func (.func fn) #[] #[.pointer (some ⟨q0, 0, none⟩), .pointer (some ⟨q1, 0, none⟩)]] w fun e w' => e = .returned (.bool (xss.any p)) ∧ Below w.heap.size w w' := by
 have hc := idxL2 fn p q0 q1 a cp xss w hent hx hf
 clear hent
 rw [anyL_firstOfL]
 generalize hf : firstOfL p xss = r at hc
 have HF := Lib.hid hf
 have HC := hide hc
 clear hf hc
 by_cases h0 : 0 ≤ r
 · go_enter Try.func222, Try.ntmps222
   go_wp2_with fail
   refine (unhide HC).mono ?_
   rintro e w1 ⟨rfl, b1⟩
   go_wp2
   go_ret
   exact ⟨ret_bool (by simp [h0]), b1⟩
 · go_enter Try.func222, Try.ntmps222
   go_wp2_with fail
   refine (unhide HC).mono ?_
   rintro e w1 ⟨rfl, b1⟩
   go_wp2
   go_ret
   exact ⟨ret_bool (by simp [show ¬ 0 ≤ r by omega]), b1⟩
end Go.Proofs.Ytgmgpcaahanmiaa
namespace Go.Proofs.Ytgmgpcaahanmiaa
open Go.RowKit
attribute [local go_sem ↓] Go.wp_at_zero Go.wp_at_succ
def hst (F : FD) (x v c : Int) : Int := lin 1 F.p F.k (mulF F.p F.k F.poly v x) c
def valF (F : FD) (x : Int) (msg : List Int) : Int := msg.foldr (fun c v => hst F x v c) 0
theorem valF_drop (F : FD) (x : Int) {msg : List Int} {k : Nat} (h : k < msg.length) : valF F x (msg.drop k) = hst F x (valF F x (msg.drop (k + 1))) (nth msg k) := by
 rw [List.drop_eq_getElem_cons h, nth_lt h]; rfl
theorem hst_range {F : FD} (ok : F.Ok) (x v c : Int) : 0 ≤ hst F x v c ∧ hst F x v c < 64 := by
 have h := lin_range (show 0 < F.p by have := ok.p2; omega) 1 F.k (mulF F.p F.k F.poly v x) c
 have := ok.q64
 exact ⟨h.1, by unfold hst; omega⟩
theorem valF_range {F : FD} (ok : F.Ok) (x : Int) (msg : List Int) : 0 ≤ valF F x msg ∧ valF F x msg < 64 := by
 cases msg with
 | nil => exact ⟨Int.le_refl _, by show (0 : Int) < 64; omega⟩
 | cons c cs => exact hst_range ok _ _ _
theorem mulF_bd {F : FD} (ok : F.Ok) (a b : Int) : 0 ≤ mulF F.p F.k F.poly a b ∧ mulF F.p F.k F.poly a b ≤ 1000000 := by
 have h := mulF_range (show 0 < F.p by have := ok.p2; omega) ok.len a b
 have := ok.q64
 exact ⟨h.1, by omega⟩
def vals (F : FD) (msg : List Int) (n : Nat) : List Int := (List.range n).map fun (x : Nat) => valF F x msg
theorem vals_len (F : FD) (msg : List Int) (n : Nat) : (vals F msg n).length = n := by simp [vals]
theorem vals_succ (F : FD) (msg : List Int) (n : Nat) : vals F msg (n + 1) = vals F msg n ++ [valF F n msg] := by simp [vals, List.range_succ]
def horT (F : FD) (x : Int) (cs : List Int) (j : Nat) : Int := (cs.take j).foldl (fun v c => hst F x v c) 0
theorem horT_succ (F : FD) (x : Int) {cs : List Int} {j : Nat} (h : j < cs.length) : horT F x cs (j + 1) = hst F x (horT F x cs j) (nth cs j) := by
 rw [horT, take_nth h, List.foldl_append]; rfl
theorem horT_rev (F : FD) (x : Int) (msg : List Int) : horT F x msg.reverse msg.reverse.length = valF F x msg := by
 rw [horT, List.take_length, List.foldl_reverse]; rfl
theorem valueAt_any (F : FD) (ap : Option Addr) (cp : Nat) (b : Option Addr) (cb : Nat) (cs : List Int) (x : Int) (w : World) (hR : Rd w ap F.poly) (ok : F.Ok) (hx : Rd w b cs) (hx0 : 0 ≤ x) (hx1 : x ≤ 64) (hm : ∀ c ∈ cs, 0 ≤ c ∧ c ≤ 1000000) :
    Calls Try.prog 186 #[.agg #[.int .i64 F.p, .int .i64 F.k, .slice ap F.poly.length cp], .slice b cs.length cb, .int .i64 x] w fun e w' => e = .returned (.int .i64 (horT F x cs cs.length)) ∧ Below w.heap.size w w' := by
 have hml := hx.len
 obtain ⟨W0, hW0⟩ : ∃ W0, W0 = w.alloc (.cells #[.int .i64 F.p, .int .i64 F.k, .slice ap F.poly.length cp] 34) := ⟨_, rfl⟩
 have hbW : Below w.heap.size w W0 := by rw [hW0]; exact (Below.refl _ _).alloc (Nat.le_refl _) _
 have hsW : w.heap.size ≤ W0.heap.size := hbW.size
 have kF : Blk W0 w.heap.size 34 #[.int .i64 F.p, .int .i64 F.k, .slice ap F.poly.length cp] := by rw [hW0]; exact Blk.new _ _ _ rfl
 have hR0 := hR.below hbW
 have hX0 := hx.below hbW
 have HW := Lib.hid hW0
 clear hW0
 go_enter Try.func186, Try.ntmps186
 go_wp2_with fail
 rw [← HW.out]
 go_loopw [7, 12] (fun vv jv wr => ∃ (j : Nat) (y : Int), jv = .int .i64 j ∧ vv = .int .i64 y ∧ j ≤ cs.length ∧ Hid (y = horT F x cs j) ∧ 0 ≤ y ∧ y ≤ 64 ∧ Below W0.heap.size W0 wr) (fun _ jv _ => cs.length - (intOf jv).toNat)
 case atStart => exact ⟨0, 0, rfl, rfl, Nat.zero_le _, by show _ = _; simp [horT], by omega, by omega, Below.refl _ _⟩
 case round =>
  obtain ⟨j, y, rfl, rfl, hj, hy, hy0, hy1, hb⟩ := hrel
  have hsz := hb.size
  by_cases hjl : j < cs.length
  · obtain ⟨gb, ob, rfl, hbb, hcx⟩ := (hX0.below hb).at_ (by omega)
    have hc := hcx j hjl
    have hcr := hm _ (nth_mem hjl)
    obtain ⟨c, hcc⟩ : ∃ c, c = nth cs j := ⟨_, rfl⟩
    rw [← hcc] at hc hcr
    obtain ⟨M, hMM⟩ : ∃ M, M = mulF F.p F.k F.poly y x := ⟨_, rfl⟩
    have hMb := mulF_bd ok y x
    rw [← hMM] at hMb
    have boxes : ∀ (W : World), Below wr.heap.size wr W → (Below wr.heap.size wr W ∧ W.cell? ⟨w.heap.size, 0, none⟩ = some (.int .i64 F.p) ∧ W.cell? ⟨w.heap.size, 1, none⟩ = some (.int .i64 F.k) ∧ W.cell? ⟨w.heap.size, 2, none⟩ = some (.slice ap F.poly.length cp)) := fun _ h =>
     ⟨h, ((kF.below hb kF.lt).below h (kF.below hb kF.lt).lt).cell 0, ((kF.below hb kF.lt).below h (kF.below hb kF.lt).lt).cell 1, ((kF.below hb kF.lt).below h (kF.below hb kF.lt).lt).cell 2⟩
    have hRr := hR0.below hb
    have hmul := fun W h => product_any F ap cp y x W h ok hy0 (by omega) hx0 (by omega)
    have hsum := fun W h => combine_any F ap cp M c 1 W h ok hMb.1 hMb.2 hcr.1 hcr.2 (.inl rfl)
    rw [← hMM] at hmul
    have BX := hide boxes
    have HMUL := hide hmul
    have HSUM := hide hsum
    have HST : Hid (lin 1 F.p F.k M c = horT F x cs (j + 1)) := by show _ = _; rw [horT_succ F x hjl, hst, hMM, hcc, hy.out]
    have hrng := hst_range ok x y c
    rw [hst, ← hMM] at hrng
    clear boxes hmul hsum hcx hcc hMM
    go_upto_region 5 with fail
    go_region_held3 (fun W => Below wr.heap.size wr W ∧ W.cell? ⟨w.heap.size, 0, none⟩ = some (.int .i64 F.p) ∧ W.cell? ⟨w.heap.size, 1, none⟩ = some (.int .i64 F.k) ∧ W.cell? ⟨w.heap.size, 2, none⟩ = some (.slice ap F.poly.length cp))
     (first | exact (unhide BX) _ (Below.refl _ _) | exact (unhide BX) _ ((Below.refl _ _).drew) | exact (unhide BX) _ (by assumption))
     (first
      | (go_at_call 174; refine (unhide HMUL _ ?_).mono ?_; exact hRr.below (And.left (by assumption)); rintro e W1 ⟨rfl, b1⟩; have hB1 := Below.chain (a := wr) (And.left (by assumption)) b1)
      | (go_at_call 173; refine (unhide HSUM _ ?_).mono ?_; exact hRr.below hB1; rintro e W2 ⟨rfl, b2⟩; have hB2 := Below.chain hB1 b2))
    all_goals
     have hb3 := hb.trans (hB2.mono hsz)
     clear BX HMUL HSUM hB1 hB2
     go_wp2
     go_roundw
     case rel => exact ⟨j + 1, _, by go_num, rfl, by omega, by show _ = _; exact HST.out, hrng.1, by omega, hb3⟩
     case measure => simp only [intOf]; omega
  · have hje : j = cs.length := by omega
    have HE := Lib.hid hje
    clear hje
    go_wp2
    go_ret
    exact ⟨ret_int (by rw [hy.out, HE.out]), hbW.trans (hb.mono hsW)⟩
theorem polynomialWord_any (F : FD) (ap : Option Addr) (cp : Nat) (b : Option Addr) (cb : Nat) (msg : List Int) (n : Nat) (w : World) (hR : Rd w ap F.poly) (ok : F.Ok) (hx : Rd w b msg) (hn : n ≤ 64) (h1 : 1 ≤ msg.length) (hm : ∀ c ∈ msg, 0 ≤ c ∧ c ≤ 1000000) :
    Calls Try.prog 107 #[.agg #[.int .i64 F.p, .int .i64 F.k, .slice ap F.poly.length cp], .slice b msg.length cb, .int .i64 n] w fun e w' => ∃ v, e = .returned v ∧ Own w' w.heap.size v (vals F msg n) ∧ Below w.heap.size w w' := by
 obtain ⟨W0, hW0⟩ : ∃ W0, W0 = w.alloc (.cells #[.int .i64 F.p, .int .i64 F.k, .slice ap F.poly.length cp] 34) := ⟨_, rfl⟩
 have hbW : Below w.heap.size w W0 := by rw [hW0]; exact (Below.refl _ _).alloc (Nat.le_refl _) _
 have hsW : w.heap.size ≤ W0.heap.size := hbW.size
 have kF : Blk W0 w.heap.size 34 #[.int .i64 F.p, .int .i64 F.k, .slice ap F.poly.length cp] := by rw [hW0]; exact Blk.new _ _ _ rfl
 have hR0 := hR.below hbW
 have hX0 := hx.below hbW
 have HW := Lib.hid hW0
 clear hW0
 go_enter Try.func107, Try.ntmps107
 go_wp2_with fail
 rw [← HW.out]
 refine (clone_any b cb msg W0 hX0).mono ?_
 rintro e w1 ⟨v1, rfl, o1, b1⟩
 obtain ⟨g1, c1, rfl, q1, z1, cc1, cd1⟩ := o1.at_len rfl h1
 go_wp2_with fail
 refine (reverse_any g1 c1 W0.heap.size msg w1 o1).mono ?_
 rintro e w2 ⟨rfl, o2, b2⟩
 have hsz1 := b1.size
 have hb2 := b1.trans b2
 have hsz2 := hb2.size
 obtain ⟨cs, hcs⟩ : ∃ cs, cs = msg.reverse := ⟨_, rfl⟩
 have hcl : cs.length = msg.length := by rw [hcs, List.length_reverse]
 have hmr : ∀ c ∈ cs, 0 ≤ c ∧ c ≤ 1000000 := by rw [hcs]; exact fun c hc => hm c (List.mem_reverse.1 hc)
 have hval : ∀ x, horT F x cs cs.length = valF F x msg := fun x => by rw [hcs]; exact horT_rev F x msg
 rw [← hcs] at o2
 have k2 := kF.below hb2 kF.lt
 have HV := hide hval
 have HMR := hide hmr
 have HCL := Lib.hid hcl
 have O2 := Lib.hid o2
 clear hcs hcl hmr hval o2 o1 b1 b2
 go_wp2_with fail
 go_loopw [8, 15] (fun v xv wr => ∃ (x : Nat), xv = .int .i64 x ∧ x ≤ n ∧ Hid (Own wr w2.heap.size v (vals F msg x)) ∧ Below w2.heap.size w2 wr) (fun _ xv _ => n - (intOf xv).toNat)
 case atStart => exact ⟨0, rfl, Nat.zero_le _, Own.nil _ _, Below.refl _ _⟩
 case round =>
  obtain ⟨x, rfl, hxn, ho, hb⟩ := hrel
  have hsz := hb.size
  by_cases hxl : x < n
  · have kr := k2.below hb k2.lt
    have f0 : wr.cell? ⟨w.heap.size, 0, none⟩ = some (.int .i64 F.p) := kr.cell 0
    have f1 : wr.cell? ⟨w.heap.size, 1, none⟩ = some (.int .i64 F.k) := kr.cell 1
    have f2 : wr.cell? ⟨w.heap.size, 2, none⟩ = some (.slice ap F.poly.length cp) := kr.cell 2
    have hcall := valueAt_any F ap cp (some ⟨g1, 0, none⟩) c1 cs x wr ((hR0.below hb2).below hb) ok ((O2.out.below hb (Nat.le_refl _)).rd (n := msg.length) (c := c1)) (by omega) (by omega) (unhide HMR)
    rw [unhide HV x, HCL.out] at hcall
    have hvr := valF_range ok x msg
    obtain ⟨y, hyy⟩ : ∃ y, y = valF F x msg := ⟨_, rfl⟩
    rw [← hyy] at hcall hvr
    have HY := Lib.hid hyy.symm
    clear hyy
    have HC := hide hcall
    clear hcall
    go_wp2_with fail
    refine (unhide HC).mono ?_
    rintro e w3 ⟨rfl, b3⟩
    have o3 := ho.out.below b3 (Nat.le_refl _)
    have hb3 := hb.trans (b3.mono hsz)
    have hsz3 := hb3.size
    go_wp2_with (at_builtin; refine wpList_append_ints rfl (.tmp 18) (.tmp 23) rfl w2.heap.size u8 (vals F msg x) [y] rfl (o3.alloc _) _ 1 1 rfl rfl (Rd.one w3 y _) (by rw [vals_len]; simp; omega) (by simp; omega) ?_; intro v4 w4 o4 g4 _)
    go_roundw
    case rel => exact ⟨x + 1, by go_num, by omega, by show Own _ _ _ _; rw [vals_succ, HY.out]; exact o4, Below.step (hb3.alloc hsz3 _) g4 (o3.alloc _) (Nat.le_refl _) (by simp; omega)⟩
    case measure => simp only [intOf]; omega
  · have hxe : x = n := by omega
    have HE := Lib.hid hxe
    clear hxe
    go_wp2
    go_ret
    exact ⟨_, rfl, by have o := ho.out; rw [HE.out] at o; exact o.mono (by omega), hbW.trans ((hb2.trans (hb.mono hsz2)).mono hsW)⟩
end Go.Proofs.Ytgmgpcaahanmiaa
namespace Go.Proofs.Ytgmgpcaahanmiaa
open Go.RowKit
attribute [local go_sem ↓] Go.wp_at_zero Go.wp_at_succ
def isElem (q x : Int) : Bool := inB x 0 (q - 1)
def notElem (q x : Int) : Bool := !isElem q x
def elems (q : Int) (xs : List Int) : Bool := !xs.any (notElem q)
theorem elems_true {q : Int} {xs : List Int} : elems q xs = true ↔ ∀ x ∈ xs, 0 ≤ x ∧ x < q := by
 rw [elems, Bool.not_eq_true', List.any_eq_false]
 constructor
 · intro h x hx
   have := h x hx
   simp [notElem, isElem, inB] at this
   omega
 · intro h x hx
   have := h x hx
   simp [notElem, isElem, inB]
   omega
theorem areIn1_any (q : Int) (gq : Nat) (x : Int) (w : World) (h1 : 1 ≤ q) (h2 : q ≤ 64) (hq : w.cell? ⟨gq, 0, none⟩ = some (.int .i64 q)) :
    Calls Try.prog 172 #[.int .i64 x, .pointer (some ⟨gq, 0, none⟩)] w fun e w' => e = .returned (.bool (notElem q x)) ∧ w = w' := by
 have hw := within_any x 0 (q - 1) w
 unfold notElem isElem
 generalize inB x 0 (q - 1) = r at hw
 have HW := hide hw
 clear hw
 go_enter Try.func172, Try.ntmps172
 go_wp2_with fail
 refine (unhide HW).mono ?_
 rintro e w1 ⟨rfl, rfl⟩
 go_wp2
 go_ret
 exact ⟨rfl, rfl⟩
theorem idx_areIn (q : Int) (gq : Nat) (hq1 : 1 ≤ q) (hq2 : q ≤ 64) (a : Option Addr) (c : Nat) (xs : List Int) (w : World) (hx : Rd w a xs) (hq : w.cell? ⟨gq, 0, none⟩ = some (.int .i64 q)) :
    Calls Try.prog 92 #[.slice a xs.length c, .func (.func 172) #[] #[.pointer (some ⟨gq, 0, none⟩)]] w fun e w' => e = .returned (.int .i64 (firstOf (notElem q) xs)) ∧ w = w' := by
 have hxl := hx.len
 have hq0 := hq
 go_enter Try.func92, Try.ntmps92
 go_wp2_with fail
 go_loop [8] (fun i => ∃ k : Nat, i = .int .i64 k ∧ k ≤ xs.length ∧ Hid (∀ j, j < k → (notElem q) (nth xs j) = false)) (fun i => xs.length - (intOf i).toNat)
 case atStart => exact ⟨0, rfl, Nat.zero_le _, fun j hj => by omega⟩
 case round =>
  obtain ⟨k, rfl, hk, hq⟩ := hrel
  by_cases hkl : k < xs.length
  · obtain ⟨b1, o1, rfl, _, hc⟩ := hx.at_ (by omega)
    have h1 := hc k hkl
    clear hc hx
    obtain ⟨r, hr⟩ : ∃ r, (notElem q) (nth xs k) = r := ⟨_, rfl⟩
    have HR := Lib.hid hr
    have hcl := areIn1_any q gq (nth xs k) w hq1 hq2 hq0
    rw [hr] at hcl
    have HC := hide hcl
    clear hr hcl
    go_wp2_with fail
    refine (unhide HC).mono ?_
    rintro e w1 ⟨rfl, rfl⟩
    cases r
    · go_wp2
      go_round
      case rel =>
       refine ⟨k + 1, by go_num, by omega, fun j hj => ?_⟩
       rcases Nat.lt_succ_iff_lt_or_eq.1 hj with h | rfl
       · exact hq.out j h
       · exact HR.out
      case measure => simp [intOf]; omega
    · go_wp2
      go_ret
      exact ⟨ret_int (firstOf_yes hkl HR.out hq.out).symm, rfl⟩
  · go_wp2
    go_ret
    exact ⟨ret_int (firstOf_no (fun j hj => hq.out j (by omega))).symm, rfl⟩
theorem has_areIn (q : Int) (gq : Nat) (hq1 : 1 ≤ q) (hq2 : q ≤ 64) (a : Option Addr) (c : Nat) (xs : List Int) (w : World) (hx : Rd w a xs) (hq : w.cell? ⟨gq, 0, none⟩ = some (.int .i64 q)) :
    Calls Try.prog 171 #[.slice a xs.length c, .func (.func 172) #[] #[.pointer (some ⟨gq, 0, none⟩)]] w fun e w' => e = .returned (.bool (xs.any (notElem q))) ∧ w = w' := by
 have hc := idx_areIn q gq hq1 hq2 a c xs w hx hq
 rw [any_firstOf]
 generalize hf : firstOf (notElem q) xs = r at hc
 have HF := Lib.hid hf
 have HC := hide hc
 clear hf hc
 by_cases h0 : 0 ≤ r
 · go_enter Try.func171, Try.ntmps171
   go_wp2_with fail
   refine (unhide HC).mono ?_
   rintro e w1 ⟨rfl, rfl⟩
   go_wp2
   go_ret
   exact ⟨ret_bool (by simp [h0]), rfl⟩
 · go_enter Try.func171, Try.ntmps171
   go_wp2_with fail
   refine (unhide HC).mono ?_
   rintro e w1 ⟨rfl, rfl⟩
   go_wp2
   go_ret
   exact ⟨ret_bool (by simp [show ¬ 0 ≤ r by omega]), rfl⟩
theorem areIn_any (q : Int) (a : Option Addr) (c : Nat) (xs : List Int) (w : World) (h1 : 1 ≤ q) (h2 : q ≤ 64) (hx : Rd w a xs) :
    Calls Try.prog 88 #[.int .i64 q, .slice a xs.length c] w fun e w' => e = .returned (.bool (elems q xs)) ∧ Below w.heap.size w w' := by
 obtain ⟨W0, hW0⟩ : ∃ W0, W0 = w.alloc (.cells #[.int .i64 q] 2) := ⟨_, rfl⟩
 have hbW : Below w.heap.size w W0 := by rw [hW0]; exact (Below.refl _ _).alloc (Nat.le_refl _) _
 have hc := has_areIn q w.heap.size h1 h2 a c xs W0 (hx.below hbW) (by rw [hW0]; exact (Blk.new w 2 #[.int .i64 q] rfl).cell 0)
 unfold elems
 generalize xs.any (notElem q) = r at hc
 have HC := hide hc
 have HW := Lib.hid hW0
 clear hc hW0
 go_enter Try.func88, Try.ntmps88
 go_wp2_with fail
 rw [← HW.out]
 refine (unhide HC).mono ?_
 rintro e w1 ⟨rfl, rfl⟩
 go_wp2
 go_ret
 exact ⟨rfl, hbW⟩
theorem elems_no {q : Int} {xs : List Int} {k : Nat} (hk : k < xs.length) (h : isElem q (nth xs k) = false) : elems q xs = false := by
 have : xs.any (notElem q) = true := List.any_eq_true.2 ⟨_, nth_mem hk, by simp [notElem, h]⟩
 simp [elems, this]
theorem elems_yes {q : Int} {xs : List Int} (h : ∀ j, j < xs.length → isElem q (nth xs j) = true) : elems q xs = true := by
 rw [elems_true]
 intro x hx
 obtain ⟨i, hi, rfl⟩ := List.getElem_of_mem hx
 have := h i hi
 rw [nth_lt hi, isElem, inB_true] at this
 omega
theorem l19Elements_any (q : Int) (a : Option Addr) (c : Nat) (xs : List Int) (w : World) (h1 : 1 ≤ q) (h2 : q ≤ 64) (hx : Rd w a xs) :
    Calls Try.prog 79 #[.int .i64 q, .slice a xs.length c] w fun e w' => e = .returned (.bool (elems q xs)) ∧ w = w' := by
 have hxl := hx.len
 go_enter Try.func79, Try.ntmps79
 go_wp2
 go_loop [5] (fun i => ∃ k : Nat, i = .int .i64 k ∧ k ≤ xs.length ∧ Hid (∀ j, j < k → isElem q (nth xs j) = true)) (fun i => xs.length - (intOf i).toNat)
 case atStart => exact ⟨0, rfl, Nat.zero_le _, fun j hj => by omega⟩
 case round =>
  obtain ⟨k, rfl, hk, hq⟩ := hrel
  by_cases hkl : k < xs.length
  · obtain ⟨b1, o1, rfl, _, hc⟩ := hx.at_ (by omega)
    have h1 := hc k hkl
    clear hc hx
    have hcl := l00In_any (nth xs k) 0 (q - 1) w
    obtain ⟨r, hr⟩ : ∃ r, isElem q (nth xs k) = r := ⟨_, rfl⟩
    have HR := Lib.hid hr
    rw [isElem] at hr
    rw [hr] at hcl
    have HC := hide hcl
    clear hr hcl
    go_wp2_with fail
    refine (unhide HC).mono ?_
    rintro e w1 ⟨rfl, rfl⟩
    cases r
    · go_wp2
      go_ret
      exact ⟨ret_bool (elems_no hkl HR.out).symm, rfl⟩
    · go_wp2
      go_round
      case rel =>
       refine ⟨k + 1, by go_num, by omega, fun j hj => ?_⟩
       rcases Nat.lt_succ_iff_lt_or_eq.1 hj with h | rfl
       · exact hq.out j h
       · exact HR.out
      case measure => simp [intOf]; omega
  · go_wp2
    go_ret
    exact ⟨ret_bool (elems_yes (fun j hj => hq.out j (by omega))).symm, rfl⟩
def lenOk (q n : Int) : Bool := isField q && inB n 1 (min q 32)
theorem isWordLength_any (q n : Int) (w : World) (_h1 : 1 ≤ q) (_h2 : q ≤ 64) :
    Calls Try.prog 111 #[.int .i64 q, .int .i64 n] w fun e w' => e = .returned (.bool (inB n 1 (min q 32))) ∧ w = w' := by
 by_cases h : q ≤ 32
 · have hm : min q 32 = q := by omega
   have hw := within_any n 1 q w
   rw [hm]
   generalize inB n 1 q = r at hw
   have HW := hide hw
   clear hw hm
   go_enter Try.func111, Try.ntmps111
   go_wp2_with fail
   refine (unhide HW).mono ?_
   rintro e w1 ⟨rfl, rfl⟩
   go_wp2
   go_ret
   exact ⟨rfl, rfl⟩
 · have hm : min q 32 = 32 := by omega
   have hw := within_any n 1 32 w
   rw [hm]
   generalize inB n 1 32 = r at hw
   have HW := hide hw
   clear hw hm
   go_enter Try.func111, Try.ntmps111
   go_wp2_with fail
   refine (unhide HW).mono ?_
   rintro e w1 ⟨rfl, rfl⟩
   go_wp2
   go_ret
   exact ⟨rfl, rfl⟩
theorem l00Min_any (a b : Int) (w : World) : Calls Try.prog 184 #[.int .i64 a, .int .i64 b] w fun e w' => e = .returned (.int .i64 (min a b)) ∧ w = w' := by
 by_cases h : a < b
 · go_enter Try.func184, Try.ntmps184
   go_wp2
   go_ret
   exact ⟨ret_int (by omega), rfl⟩
 · go_enter Try.func184, Try.ntmps184
   go_wp2
   go_ret
   exact ⟨ret_int (by omega), rfl⟩
def pwRes (q : Int) (msg : List Int) (n : Int) : List Int × Int :=
 if lenOk q n then (if decide (0 < msg.length) && elems q msg then (vals (fdOf q) msg n.toNat, 0) else ([], 1)) else ([], 2)
theorem lenOk_true {q n : Int} (h : lenOk q n = true) : isField q = true ∧ 2 ≤ q ∧ q ≤ 64 ∧ 1 ≤ n ∧ n ≤ 32 := by
 rw [lenOk, Bool.and_eq_true, inB_true] at h
 obtain ⟨h2, h64, _⟩ := isField_size h.1
 exact ⟨h.1, h2, h64, by omega, by omega⟩
def ResL (w : World) (r : List Int × Int) (e : Ending) (w' : World) : Prop := ∃ v, e = .returned (.tuple #[v, .int .i64 r.2]) ∧ Own w' w.heap.size v r.1 ∧ Below w.heap.size w w'
theorem implPW_any (q : Int) (b : Option Addr) (cb : Nat) (msg : List Int) (n : Int) (w : World) (hx : Rd w b msg) :
    Calls Try.prog 29 #[.int .i64 q, .slice b msg.length cb, .int .i64 n] w (ResL w (pwRes q msg n)) := by
 have hxl := hx.len
 unfold pwRes
 by_cases hf : isField q = true
 · obtain ⟨h2, h64, _⟩ := isField_size hf
   have hM := implMake_any q w hf
   obtain ⟨ok, hq, _⟩ := fdOf_ok hf
   have hW := fun W => isWordLength_any q n W (by omega) h64
   generalize fdOf q = F at hM ok hq ⊢
   have HM := hide hM
   have HQ := Lib.hid hq
   clear hM hq
   by_cases hn : inB n 1 (min q 32) = true
   · have hn2 := inB_true.1 hn
     rw [if_pos (by rw [lenOk, hf, hn]; rfl)]
     rw [hn] at hW
     have HW := hide hW
     obtain ⟨N, rfl⟩ := Int.eq_ofNat_of_zero_le (show 0 ≤ n by omega)
     have hN : N ≤ 32 := by omega
     clear hW hn hn2
     rw [Int.toNat_natCast]
     by_cases h0 : 0 < msg.length
     · have hne : ((msg.length : Int) == 0) = false := by rw [beq_eq_false_iff_ne]; omega
       have hE := fun W h => areIn_any q b cb msg W (by omega) h64 h
       by_cases he : elems q msg = true
       · have hel := elems_true.1 he
         rw [he] at hE
         rw [if_pos (by simp [h0, he])]
         have hmr : ∀ c ∈ msg, 0 ≤ c ∧ c ≤ 1000000 := fun c hc => by have := hel c hc; omega
         have HE := hide hE
         have HMR := hide hmr
         clear hE hmr hel he hf
         go_enter Try.func29, Try.ntmps29
         go_wp2_with fail
         refine (unhide HM).mono ?_
         rintro e w1 ⟨v1, rfl, o1, b1⟩
         obtain ⟨a1, c1, rfl, r1, _⟩ := o1.form
         obtain ⟨W1, hW1⟩ : ∃ W1, W1 = w1.alloc (.cells #[.int .i64 F.p, .int .i64 F.k, .slice a1 F.poly.length c1] 34) := ⟨_, rfl⟩
         have hbW : Below w1.heap.size w1 W1 := by rw [hW1]; exact (Below.refl _ _).alloc (Nat.le_refl _) _
         have kF : Blk W1 w1.heap.size 34 #[.int .i64 F.p, .int .i64 F.k, .slice a1 F.poly.length c1] := by rw [hW1]; exact Blk.new _ _ _ rfl
         have r1W := r1.below hbW
         have hb := Below.chain b1 hbW
         have hHW := Lib.hid hW1
         clear hW1
         go_wp2_with fail
         rw [← hHW.out]
         refine (unhide HW _).mono ?_
         rintro e w2 ⟨rfl, rfl⟩
         go_wp2_with fail
         refine (unhide HE _ (hx.below hb)).mono ?_
         rintro e w2 ⟨rfl, b2⟩
         have k2 := kF.below b2 kF.lt
         have f0 : w2.cell? ⟨w1.heap.size, 0, none⟩ = some (.int .i64 F.p) := k2.cell 0
         have f1 : w2.cell? ⟨w1.heap.size, 1, none⟩ = some (.int .i64 F.k) := k2.cell 1
         have f2 : w2.cell? ⟨w1.heap.size, 2, none⟩ = some (.slice a1 F.poly.length c1) := k2.cell 2
         have hb2 := Below.chain hb b2
         go_wp2_with fail
         refine (polynomialWord_any F a1 c1 b cb msg N w2 (r1W.below b2) ok (hx.below hb2) (by omega) h0 (unhide HMR)).mono ?_
         rintro e w3 ⟨v3, rfl, o3, b3⟩
         go_wp2
         go_ret2
         exact ⟨_, rfl, o3.mono hb2.size, hb2.trans (b3.mono hb2.size)⟩
       · have he' : elems q msg = false := by simpa using he
         rw [he'] at hE
         rw [if_neg (by simp [he'])]
         have HE := hide hE
         clear hE he he' hf
         go_enter Try.func29, Try.ntmps29
         go_wp2_with fail
         refine (unhide HM).mono ?_
         rintro e w1 ⟨v1, rfl, o1, b1⟩
         obtain ⟨a1, c1, rfl, r1, _⟩ := o1.form
         obtain ⟨W1, hW1⟩ : ∃ W1, W1 = w1.alloc (.cells #[.int .i64 F.p, .int .i64 F.k, .slice a1 F.poly.length c1] 34) := ⟨_, rfl⟩
         have hbW : Below w1.heap.size w1 W1 := by rw [hW1]; exact (Below.refl _ _).alloc (Nat.le_refl _) _
         have kF : Blk W1 w1.heap.size 34 #[.int .i64 F.p, .int .i64 F.k, .slice a1 F.poly.length c1] := by rw [hW1]; exact Blk.new _ _ _ rfl
         have r1W := r1.below hbW
         have hb := Below.chain b1 hbW
         have hHW := Lib.hid hW1
         clear hW1
         go_wp2_with fail
         rw [← hHW.out]
         refine (unhide HW _).mono ?_
         rintro e w2 ⟨rfl, rfl⟩
         go_wp2_with fail
         refine (unhide HE _ (hx.below hb)).mono ?_
         rintro e w2 ⟨rfl, b2⟩
         have hb2 := Below.chain hb b2
         go_wp2
         go_ret2
         exact ⟨_, rfl, Own.nil _ _, hb2⟩
     · have hm0 : msg.length = 0 := by omega
       have hne : ((msg.length : Int) == 0) = true := by rw [beq_iff_eq]; omega
       rw [if_neg (by simp [hm0])]
       clear hm0 hf
       go_enter Try.func29, Try.ntmps29
       go_wp2_with fail
       refine (unhide HM).mono ?_
       rintro e w1 ⟨v1, rfl, o1, b1⟩
       obtain ⟨a1, c1, rfl, r1, _⟩ := o1.form
       obtain ⟨W1, hW1⟩ : ∃ W1, W1 = w1.alloc (.cells #[.int .i64 F.p, .int .i64 F.k, .slice a1 F.poly.length c1] 34) := ⟨_, rfl⟩
       have hbW : Below w1.heap.size w1 W1 := by rw [hW1]; exact (Below.refl _ _).alloc (Nat.le_refl _) _
       have kF : Blk W1 w1.heap.size 34 #[.int .i64 F.p, .int .i64 F.k, .slice a1 F.poly.length c1] := by rw [hW1]; exact Blk.new _ _ _ rfl
       have r1W := r1.below hbW
       have hb := Below.chain b1 hbW
       have hHW := Lib.hid hW1
       clear hW1
       go_wp2_with fail
       rw [← hHW.out]
       refine (unhide HW _).mono ?_
       rintro e w2 ⟨rfl, rfl⟩
       go_wp2
       go_ret2
       exact ⟨_, rfl, Own.nil _ _, hb⟩
   · have hn' : inB n 1 (min q 32) = false := by simpa using hn
     rw [if_neg (by rw [lenOk, hn']; simp)]
     rw [hn'] at hW
     have HW := hide hW
     clear hW hn hn' hf
     go_enter Try.func29, Try.ntmps29
     go_wp2_with fail
     refine (unhide HM).mono ?_
     rintro e w1 ⟨v1, rfl, o1, b1⟩
     obtain ⟨a1, c1, rfl, r1, _⟩ := o1.form
     obtain ⟨W1, hW1⟩ : ∃ W1, W1 = w1.alloc (.cells #[.int .i64 F.p, .int .i64 F.k, .slice a1 F.poly.length c1] 34) := ⟨_, rfl⟩
     have hbW : Below w1.heap.size w1 W1 := by rw [hW1]; exact (Below.refl _ _).alloc (Nat.le_refl _) _
     have kF : Blk W1 w1.heap.size 34 #[.int .i64 F.p, .int .i64 F.k, .slice a1 F.poly.length c1] := by rw [hW1]; exact Blk.new _ _ _ rfl
     have r1W := r1.below hbW
     have hb := Below.chain b1 hbW
     have hHW := Lib.hid hW1
     clear hW1
     go_wp2_with fail
     rw [← hHW.out]
     refine (unhide HW _).mono ?_
     rintro e w2 ⟨rfl, rfl⟩
     go_wp2
     go_ret2
     exact ⟨_, rfl, Own.nil _ _, hb⟩
 · have hf' : isField q = false := by simpa using hf
   have hM := MakeField_no q w hf'
   rw [if_neg (by rw [lenOk, hf']; simp)]
   have HM := hide hM
   clear hM hf hf'
   go_enter Try.func29, Try.ntmps29
   go_wp2_with fail
   refine (unhide HM).mono ?_
   rintro e w1 ⟨v1, rfl, o1, b1⟩
   obtain ⟨a1, c1, rfl, r1, _⟩ := o1.form
   go_wp2
   go_ret2
   exact ⟨_, rfl, Own.nil _ _, Below.chain b1 ((Below.refl _ _).alloc (Nat.le_refl _) _)⟩
end Go.Proofs.Ytgmgpcaahanmiaa
namespace Go.Proofs.Ytgmgpcaahanmiaa
open Go.RowKit
attribute [local go_sem ↓] Go.wp_at_zero Go.wp_at_succ
theorem tab_at {w : World} {a : Option Addr} {f : Int → Int → Int} {n : Nat} (h : RdS w a (rowsTo f n n)) {i j : Nat} (hi : i < n) (hj : j < n) :
    ∃ b off bi oi ci, a = some ⟨b, off, none⟩ ∧ w.cell? ⟨b, off + i, none⟩ = some (.slice (some ⟨bi, oi, none⟩) n ci) ∧ w.cell? ⟨bi, oi + j, none⟩ = some (.int .i64 (f i j)) := by
 obtain ⟨b, off, rfl, _, hc⟩ := h.at_ (by rw [rowsTo_len]; omega)
 obtain ⟨ai, ci, h1, h2⟩ := hc i (by rw [rowsTo_len]; exact hi)
 rw [rowsTo_nth f n hi] at h1 h2
 obtain ⟨bi, oi, rfl, _, hd⟩ := h2.at_ (by rw [rowF_len]; omega)
 have h3 := hd j (by rw [rowF_len]; exact hj)
 rw [rowF_len] at h1
 rw [rowF_nth f i hj] at h3
 exact ⟨b, off, bi, oi, ci, rfl, h1, h3⟩
def addTo (F : FD) (xs ys : List Int) (s : Int) : Nat → List Int
 | 0 => xs
 | k + 1 => (addTo F xs ys s k).set k (F.add (nth xs k) (F.mul s (nth ys k)))
theorem addTo_len (F : FD) (xs ys : List Int) (s : Int) (k : Nat) : (addTo F xs ys s k).length = xs.length := by
 induction k with
 | zero => rfl
 | succ k ih => rw [addTo, List.length_set, ih]
theorem addTo_nth (F : FD) (xs ys : List Int) (s : Int) (k : Nat) (hk : k ≤ xs.length) (i : Nat) : nth (addTo F xs ys s k) i = if i < k then F.add (nth xs i) (F.mul s (nth ys i)) else nth xs i := by
 induction k with
 | zero => rfl
 | succ k ih =>
  have ih := ih (by omega)
  rw [addTo]
  by_cases e : i = k
  · subst e
    rw [nth_set_same (by rw [addTo_len]; omega), if_pos (by omega)]
  · rw [nth_set_ne (by omega), ih]
    by_cases h : i < k
    · rw [if_pos h, if_pos (by omega)]
    · rw [if_neg h, if_neg (by omega)]
theorem grown_drew {w w' : World} {row : Option Nat} (h : w.grownBy w' row) : w.grownBy w'.drew row := ⟨h.os, h.tape, h.output, h.size, h.block⟩
theorem addTimes_any (F : FD) (tv : Value) (wt w : World) (B g1 c1 : Nat) (b : Option Addr) (d : Nat) (xs ys : List Int) (s : Int) (ok : F.Ok) (hT : Tabs wt F tv) (hbt : Below wt.heap.size wt w) (hBt : wt.heap.size ≤ B)
    (ho : Own w B (.slice (some ⟨g1, 0, none⟩) xs.length c1) xs) (hy : Rd w b ys) (hne : ∀ p, b = some p → p.block ≠ g1) (hl : ys.length = xs.length) (hs0 : 0 ≤ s) (hs1 : s < F.n) (hm : ∀ x ∈ xs, 0 ≤ x ∧ x < F.n) (hm2 : ∀ y ∈ ys, 0 ≤ y ∧ y < F.n) :
    Calls Try.prog 90 #[tv, .slice (some ⟨g1, 0, none⟩) xs.length c1, .slice b ys.length d, .int .i64 s] w fun e w' => e = .returned (.tuple #[]) ∧ Own w' B (.slice (some ⟨g1, 0, none⟩) xs.length c1) (addTo F xs ys s xs.length) ∧ w.grownBy w' (some g1) := by
 obtain ⟨aA, cA, aS, cS, aM, cM, aI, cI, rfl, tA, tS, tM, tI⟩ := hT
 obtain ⟨n2, n64⟩ := ok.n_bd
 have hxl := ho.1
 have hg1 := ho.lt g1 rfl
 have hcap := ho.cap
 unfold maxLen at hcap
 obtain ⟨hcap1, hcap2⟩ := hcap
 obtain ⟨W0, hW0⟩ : ∃ W0, W0 = w.alloc (.cells #[.int .i64 F.n, .slice aA F.n cA, .slice aS F.n cS, .slice aM F.n cM, .slice aI F.n cI] 93) := ⟨_, rfl⟩
 have kT : Blk W0 w.heap.size 93 #[.int .i64 F.n, .slice aA F.n cA, .slice aS F.n cS, .slice aM F.n cM, .slice aI F.n cI] := by rw [hW0]; exact Blk.new _ _ _ rfl
 have gr0 : w.grownBy W0 (some g1) := by rw [hW0]; exact World.grownBy_alloc _ _ _
 have ho0 : Own W0 B (.slice (some ⟨g1, 0, none⟩) xs.length c1) xs := by rw [hW0]; exact ho.alloc _
 obtain ⟨si, rfl⟩ := Int.eq_ofNat_of_zero_le hs0
 have HW := Lib.hid hW0
 have HO := Lib.hid ho0
 have HL := Lib.hid hl
 clear hW0 ho0 hl ho
 go_enter Try.func90, Try.ntmps90
 go_wp2_with fail
 rw [← HW.out, HL.out]
 go_loopw [12] (fun iv wr => ∃ (k : Nat), iv = .int .i64 k ∧ k ≤ xs.length ∧ Hid (Own wr B (.slice (some ⟨g1, 0, none⟩) xs.length c1) (addTo F xs ys si k)) ∧ Hid (w.grownBy wr (some g1)) ∧ Blk wr w.heap.size 93 #[.int .i64 F.n, .slice aA F.n cA, .slice aS F.n cS, .slice aM F.n cM, .slice aI F.n cI]) (fun iv _ => xs.length - (intOf iv).toNat)
 case atStart => exact ⟨0, rfl, Nat.zero_le _, HO.out, gr0, kT⟩
 case round =>
  obtain ⟨k, rfl, hk, ho, hgr, kR⟩ := hrel
  by_cases hkl : k < xs.length
  · have hky : k < ys.length := by rw [HL.out]; exact hkl
    have hbr : Below wt.heap.size wt wr := hbt.grown hgr.out (by have := hbt.size; omega) (fun j hj => by injection hj; omega)
    obtain ⟨gb, ob, rfl, hbb, hc2⟩ := (hy.grow hgr.out (fun p hp e => by injection e with e; exact hne p hp e)).at_ (by omega)
    have h2 := hc2 k hky
    have hlen := addTo_len F xs ys si k
    have h1 := ho.out.cell (j := k) (by rw [hlen]; exact hkl)
    have hf1 := ho.out.frozen k
    rw [addTo_nth F xs ys si k (by omega), if_neg (by omega)] at h1
    have hxr := hm _ (nth_mem hkl)
    have hyr := hm2 _ (nth_mem hky)
    obtain ⟨x, hx⟩ := Int.eq_ofNat_of_zero_le hxr.1
    obtain ⟨y, hy'⟩ := Int.eq_ofNat_of_zero_le hyr.1
    have hres : addTo F xs ys si (k + 1) = (addTo F xs ys si k).set k (F.add x (F.mul si y)) := by rw [addTo, hx, hy']
    rw [hx] at h1 hxr
    rw [hy'] at h2 hyr
    have hMb := mul_bd ok si y
    obtain ⟨m, hmm⟩ := Int.eq_ofNat_of_zero_le hMb.1
    obtain ⟨bM, oM, bm, om, cm, rfl, m1, m2⟩ := tab_at (tM.below hbr) (i := si) (j := y) (by omega) (by omega)
    obtain ⟨bA, oA, ba, oa, ca, rfl, a1, a2⟩ := tab_at (tA.below hbr) (i := x) (j := m) (by omega) (by omega)
    rw [hmm] at m2 hres hMb
    obtain ⟨D, hD⟩ : ∃ D, D = F.add x m := ⟨_, rfl⟩
    rw [← hD] at a2 hres
    have t1 : wr.cell? ⟨w.heap.size, 1, none⟩ = some (.slice (some ⟨bA, oA, none⟩) F.n cA) := kR.cell 1
    have t3 : wr.cell? ⟨w.heap.size, 3, none⟩ = some (.slice (some ⟨bM, oM, none⟩) F.n cM) := kR.cell 3
    have lx : x < F.n := by omega
    have ly : y < F.n := by omega
    have ls : si < F.n := by omega
    have lm : m < F.n := by omega
    have HRES := Lib.hid hres
    have KR := Lib.hid kR
    clear hres hD hmm hx hy' hc2 hlen kR hm hm2 tA tS tM tI hbt hne hy hxr hyr hMb hbr
    go_wp2_with fail
    go_region
    go_wp2
    go_roundw
    case rel =>
     have hs := ho.out.set k D
     refine ⟨k + 1, by go_num, by omega, ?_, grown_drew (grown_trans_row hgr.out hs.2), KR.out.far (by show w.heap.size ≠ g1; omega) _⟩
     show Own _ _ _ _
     rw [HRES.out]
     exact hs.1
    case measure => simp only [intOf]; omega
  · have hke : k = xs.length := by omega
    have HE := Lib.hid hke
    clear hke
    go_wp2
    go_end0
    exact ⟨rfl, by have o := ho.out; rw [HE.out] at o; exact o, hgr.out⟩
end Go.Proofs.Ytgmgpcaahanmiaa
namespace Go.Proofs.Ytgmgpcaahanmiaa
open Go.RowKit
section
variable {F : FD}
theorem sub_zero' (ok : F.Ok) {a : Int} (ha : 0 ≤ a ∧ a < F.n) : F.sub a 0 = a := lin_zero (by have := ok.p2; omega) (-1) (by rw [ok.n_eq]; exact ha)
theorem mul_zero' (ok : F.Ok) (a : Int) : F.mul a 0 = 0 := mulF_zero (by have := ok.p2; omega) ok.len a
theorem zero_mul' (ok : F.Ok) (a : Int) : F.mul 0 a = 0 := zero_mulF (by have := ok.p2; omega) ok.len a
theorem add_neg_mul' (ok : F.Ok) (a c w : Int) : F.add a (F.mul (F.sub 0 c) w) = F.sub a (F.mul c w) := add_neg_mul (by have := ok.p2; omega) ok.len a c w
theorem addTo_less (ok : F.Ok) (xs ys : List Int) (x : Int) : addTo F xs ys (F.sub 0 x) xs.length = less F xs ys x := by
 refine eq_of_nth (by rw [addTo_len, less_len]) fun i hi => ?_
 rw [addTo_len] at hi
 rw [addTo_nth F xs ys _ _ (Nat.le_refl _), if_pos hi, less_nth F xs ys x hi, add_neg_mul' ok]
theorem less_zero (ok : F.Ok) {xs ys : List Int} (h : ∀ x ∈ xs, 0 ≤ x ∧ x < F.n) : less F xs ys 0 = xs := by
 refine eq_of_nth (less_len _ _ _ _) fun i hi => ?_
 rw [less_len] at hi
 rw [less_nth F xs ys 0 hi, zero_mul' ok, sub_zero' ok (h _ (nth_mem hi))]
def scaleTo (F : FD) (s : Int) (xs : List Int) : Nat → List Int
 | 0 => xs
 | k + 1 => (scaleTo F s xs k).set k (F.mul s (nth xs k))
theorem scaleTo_len (F : FD) (s : Int) (xs : List Int) (k : Nat) : (scaleTo F s xs k).length = xs.length := by
 induction k with
 | zero => rfl
 | succ k ih => rw [scaleTo, List.length_set, ih]
theorem scaleTo_nth (F : FD) (s : Int) (xs : List Int) (k : Nat) (hk : k ≤ xs.length) (i : Nat) : nth (scaleTo F s xs k) i = if i < k then F.mul s (nth xs i) else nth xs i := by
 induction k with
 | zero => rfl
 | succ k ih =>
  have ih := ih (by omega)
  rw [scaleTo]
  by_cases e : i = k
  · subst e
    rw [nth_set_same (by rw [scaleTo_len]; omega), if_pos (by omega)]
  · rw [nth_set_ne (by omega), ih]
    by_cases h : i < k
    · rw [if_pos h, if_pos (by omega)]
    · rw [if_neg h, if_neg (by omega)]
theorem scaleTo_all (F : FD) (s : Int) (xs : List Int) : scaleTo F s xs xs.length = scale F s xs := by
 refine eq_of_nth (by rw [scaleTo_len, scale_len]) fun i hi => ?_
 rw [scaleTo_len] at hi
 rw [scaleTo_nth F s xs _ (Nat.le_refl _), if_pos hi, scale_nth F s hi]
variable {c t : Nat} {rows : List (List Int)}
theorem elimTo_zero (ok : F.Ok) {n : Nat} (h : F.Mat n rows) {j : Nat} (hj : j < rows.length) (h0 : nth (nthL rows j) c = 0) : elimTo F c t rows (j + 1) = elimTo F c t rows j := by
 rw [elimTo]
 by_cases e : j = t
 · rw [if_pos e]
 · rw [if_neg e, h0, less_zero ok (Mat_nth h hj).2]
   refine eq_of_nthL (by rw [List.length_set]) fun i hi => ?_
   by_cases e2 : i = j
   · subst e2
     rw [nthL_set_same (by rw [elimTo_len]; exact hj), elimTo_nth i (by omega), if_neg (by omega)]
   · rw [nthL_set_ne (Ne.symm e2)]
theorem elimTo_step (ok : F.Ok) {j : Nat} (e : j ≠ t) : elimTo F c t rows (j + 1) = (elimTo F c t rows j).set j (addTo F (nthL rows j) (nthL rows t) (F.sub 0 (nth (nthL rows j) c)) (nthL rows j).length) := by
 rw [elimTo, if_neg e, addTo_less ok]
def swapped (rows : List (List Int)) (t i : Nat) : List (List Int) := (rows.set t (nthL rows i)).set i (nthL rows t)
theorem swapped_len (rows : List (List Int)) (t i : Nat) : (swapped rows t i).length = rows.length := by simp [swapped]
theorem swapped_self {t : Nat} (ht : t < rows.length) : swapped rows t t = rows := by
 refine eq_of_nthL (swapped_len _ _ _) fun i hi => ?_
 rw [swapped_len] at hi
 unfold swapped
 by_cases e : i = t
 · subst e
   rw [nthL_set_same (by rw [List.length_set]; exact hi)]
 · rw [nthL_set_ne (Ne.symm e), nthL_set_ne (Ne.symm e)]
theorem swapped_top {i : Nat} (ht : t < rows.length) (hi : i < rows.length) : nthL (swapped rows t i) t = nthL rows i := by
 unfold swapped
 by_cases e : t = i
 · subst e
   rw [nthL_set_same (by rw [List.length_set]; exact hi)]
 · rw [nthL_set_ne (Ne.symm e), nthL_set_same ht]
theorem swapped_Mat {n : Nat} (h : F.Mat n rows) {i : Nat} (ht : t < rows.length) (hi : i < rows.length) : F.Mat n (swapped rows t i) := by
 refine Mat_of fun j hj => ?_
 rw [swapped_len] at hj
 unfold swapped
 by_cases e : j = i
 · subst e
   rw [nthL_set_same (by rw [List.length_set]; exact hi)]
   exact Mat_nth h ht
 · rw [nthL_set_ne (Ne.symm e)]
   by_cases e2 : j = t
   · subst e2
     rw [nthL_set_same ht]
     exact Mat_nth h hi
   · rw [nthL_set_ne (Ne.symm e2)]
     exact Mat_nth h hj
theorem swapped_topped {i : Nat} (ht : t < rows.length) (hi : i < rows.length) : (swapped rows t i).set t (scale F (F.inv (nth (nthL rows i) c)) (nthL rows i)) = topped F c t rows i := by
 refine eq_of_nthL (by rw [List.length_set, swapped_len, topped_len]) fun j hj => ?_
 rw [List.length_set, swapped_len] at hj
 unfold topped
 by_cases e : j = t
 · subst e
   rw [nthL_set_same (by rw [swapped_len]; exact hj), nthL_set_same (by rw [List.length_set]; exact hj)]
 · rw [nthL_set_ne (Ne.symm e), nthL_set_ne (Ne.symm e)]
   unfold swapped
   by_cases e2 : j = i
   · subst e2
     rw [nthL_set_same (by rw [List.length_set]; exact hj), nthL_set_same hj]
   · rw [nthL_set_ne (Ne.symm e2), nthL_set_ne (Ne.symm e), nthL_set_ne (Ne.symm e2)]
theorem topped_top (F : FD) (c : Nat) {i : Nat} (ht : t < rows.length) : nthL (topped F c t rows i) t = scale F (F.inv (nth (nthL rows i) c)) (nthL rows i) := by
 unfold topped
 rw [nthL_set_same (by rw [List.length_set]; exact ht)]
theorem red_skip {xss : List (List Int)} {k : Nat} {piv : List Int} (h : red F xss k = (rows, piv)) (hz : pivAt rows k piv.length = rows.length) : red F xss (k + 1) = (rows, piv) := by
 rw [red, h, stepR, if_neg]
 rintro ⟨_, h2⟩
 rw [show ((rows, piv) : List (List Int) × List Int).1 = rows from rfl, show ((rows, piv) : List (List Int) × List Int).2 = piv from rfl, hz] at h2
 exact Nat.lt_irrefl _ h2
theorem red_go {xss : List (List Int)} {k i : Nat} {piv : List Int} (h : red F xss k = (rows, piv)) (ht : piv.length < rows.length) (hp : pivAt rows k piv.length = i) (hi : i < rows.length) :
    red F xss (k + 1) = (elimTo F k piv.length (topped F k piv.length rows i) rows.length, piv ++ [(k : Int)]) := by
 rw [red, h, stepR]
 show (if piv.length < rows.length ∧ pivAt rows k piv.length < rows.length then (redOne F k piv.length rows (pivAt rows k piv.length), piv ++ [(k : Int)]) else (rows, piv)) = _
 rw [hp, if_pos ⟨ht, hi⟩, redOne]
end
end Go.Proofs.Ytgmgpcaahanmiaa
namespace Go.Proofs.Ytgmgpcaahanmiaa
open Go.RowKit
section
variable {F : FD}
def FD.D (F : FD) (a : Int) (i : Nat) : Int := nth (dig a F.p F.k) i
theorem el_ext (ok : F.Ok) {x y : Int} (hx : F.el x) (hy : F.el y) (h : ∀ i, i < F.k → Cg F.p (F.D x i) (F.D y i)) : x = y := dig_ext (by have := ok.p2; omega) hx hy h
theorem D_lin (ok : F.Ok) (s a b : Int) {i : Nat} (hi : i < F.k) : Cg F.p (F.D (lin s F.p F.k a b) i) (F.D a i + s * F.D b i) := lin_cg (by have := ok.p2; omega) s F.k a b hi
theorem lin_el (ok : F.Ok) (s a b : Int) : F.el (lin s F.p F.k a b) := lin_range (by have := ok.p2; omega) s F.k a b
theorem D_zero (F : FD) {i : Nat} (hi : i < F.k) : F.D 0 i = 0 := dig_zero_nth F.p hi
theorem zero_el (ok : F.Ok) : F.el 0 := ⟨Int.le_refl _, by rw [ok.n_eq]; have := ok.n_bd; omega⟩
theorem D_lin2 (ok : F.Ok) {s a b u v : Int} {i : Nat} (hi : i < F.k) (ha : Cg F.p (F.D a i) u) (hb : Cg F.p (F.D b i) v) : Cg F.p (F.D (lin s F.p F.k a b) i) (u + s * v) :=
 (D_lin ok s a b hi).trans (ha.add ((Cg.refl _ s).mul hb))
theorem lin_eq (ok : F.Ok) {x y : Int} {f g : Nat → Int} (hx : F.el x) (hy : F.el y) (h1 : ∀ i, i < F.k → Cg F.p (F.D x i) (f i)) (h2 : ∀ i, i < F.k → Cg F.p (F.D y i) (g i)) (h : ∀ i, f i = g i) : x = y :=
 el_ext ok hx hy fun i hi => (h1 i hi).trans ((Cg.of_eq (h i)).trans (h2 i hi).symm)
theorem add_comm' (ok : F.Ok) (a b : Int) : F.add a b = F.add b a :=
 lin_eq ok (lin_el ok _ _ _) (lin_el ok _ _ _) (fun i hi => D_lin ok _ _ _ hi) (fun i hi => D_lin ok _ _ _ hi) fun i => by omega
theorem add_assoc' (ok : F.Ok) (a b c : Int) : F.add (F.add a b) c = F.add a (F.add b c) :=
 lin_eq ok (lin_el ok _ _ _) (lin_el ok _ _ _) (fun i hi => D_lin2 ok hi (D_lin ok _ _ _ hi) (Cg.refl _ _)) (fun i hi => D_lin2 ok hi (Cg.refl _ _) (D_lin ok _ _ _ hi)) fun i => by omega
theorem add_zero' (ok : F.Ok) {a : Int} (ha : F.el a) : F.add a 0 = a := lin_zero (by have := ok.p2; omega) 1 ha
theorem sub_zero_el (ok : F.Ok) {a : Int} (ha : F.el a) : F.sub a 0 = a := lin_zero (by have := ok.p2; omega) (-1) ha
theorem zero_add' (ok : F.Ok) {a : Int} (ha : F.el a) : F.add 0 a = a := by rw [add_comm' ok, add_zero' ok ha]
theorem sub_self' (ok : F.Ok) (a : Int) : F.sub a a = 0 :=
 lin_eq ok (lin_el ok _ _ _) (zero_el ok) (fun i hi => D_lin ok _ _ _ hi) (fun i hi => Cg.of_eq (D_zero F hi)) fun i => by omega
theorem eq_of_sub (ok : F.Ok) {a b : Int} (ha : F.el a) (hb : F.el b) (h : F.sub a b = 0) : a = b := by
 refine el_ext ok ha hb fun i hi => ?_
 have h1 := D_lin ok (-1) a b hi
 have h2 : F.D (lin (-1) F.p F.k a b) i = 0 := by
  show F.D (F.sub a b) i = 0
  rw [h, D_zero F hi]
 rw [h2] at h1
 have h3 := h1.add (Cg.refl F.p (F.D b i))
 refine (Cg.of_eq ?_).trans (h3.symm.trans (Cg.of_eq ?_)) <;> omega
theorem mul_zero_all (ok : F.Ok) (a : Int) : F.mul a 0 = 0 := mulF_zero (by have := ok.p2; omega) ok.len a
theorem zero_mul_all (ok : F.Ok) (a : Int) : F.mul 0 a = 0 := zero_mulF (by have := ok.p2; omega) ok.len a
theorem mul_add' (ok : F.Ok) (a b c : Int) : F.mul a (F.add b c) = F.add (F.mul a b) (F.mul a c) := mul_lin ok a 1 b c
theorem mul_sub' (ok : F.Ok) (a b c : Int) : F.mul a (F.sub b c) = F.sub (F.mul a b) (F.mul a c) := mul_lin ok a (-1) b c
theorem add_mul' (ok : F.Ok) (a b c : Int) : F.mul (F.add a b) c = F.add (F.mul a c) (F.mul b c) := mul_lin' ok c 1 a b
theorem sub_mul' (ok : F.Ok) (a b c : Int) : F.mul (F.sub a b) c = F.sub (F.mul a c) (F.mul b c) := mul_lin' ok c (-1) a b
theorem mul_red (ok : F.Ok) (a b : Int) : F.mul (F.add a 0) b = F.mul a b := by rw [add_mul' ok, zero_mul_all ok, add_zero' ok (mul_el ok a b)]
theorem mul_red2 (ok : F.Ok) (a b : Int) : F.mul b (F.add a 0) = F.mul b a := by rw [mul_comm' ok, mul_red ok, mul_comm' ok]
theorem mul_assoc_all (ok : F.Ok) (a b c : Int) : F.mul (F.mul a b) c = F.mul a (F.mul b c) := by
 have h := mul_assoc' ok (a := F.add a 0) (b := F.add b 0) (c := c) (lin_el ok _ _ _) (lin_el ok _ _ _)
 rw [mul_red ok, mul_red2 ok, mul_red ok, mul_red ok] at h
 exact h
theorem el_n (ok : F.Ok) {a : Int} : F.el a ↔ 0 ≤ a ∧ a < F.n := by rw [FD.el, ok.n_eq]
theorem no_div (hG : F.Good) {a b : Int} (ha : F.el a) (hb : F.el b) (h : F.mul a b = 0) : a = 0 ∨ b = 0 := by
 by_cases h0 : a = 0
 · exact .inl h0
 · right
   have ok := hG.ok
   have ha2 := (el_n ok).1 ha
   obtain ⟨i1, i2, i3, _⟩ := inv_spec hG (a := a) (by omega) ha2.2
   have e := mul_assoc' ok (a := F.inv a) (b := a) (c := b) ((el_n ok).2 ⟨by omega, i3⟩) ha
   rw [h, mul_zero_all ok, mul_comm' ok (F.inv a) a, i1, one_mul' ok hb] at e
   exact e
theorem valF_cons (F : FD) (x c : Int) (cs : List Int) : valF F x (c :: cs) = F.add (F.mul (valF F x cs) x) c := rfl
theorem valF_el (ok : F.Ok) (x : Int) (p : List Int) : F.el (valF F x p) := by
 cases p with
 | nil => exact zero_el ok
 | cons c cs => exact lin_el ok _ _ _
def quot (F : FD) (r : Int) : List Int → List Int
 | [] => []
 | [_] => []
 | _ :: c :: cs => valF F r (c :: cs) :: quot F r (c :: cs)
theorem quot_len (F : FD) (r : Int) : ∀ p : List Int, (quot F r p).length = p.length - 1
 | [] => rfl
 | [_] => rfl
 | _ :: c :: cs => by rw [quot, List.length_cons, quot_len F r (c :: cs)]; simp
theorem quot_el (ok : F.Ok) (r : Int) : ∀ p : List Int, ∀ c ∈ quot F r p, F.el c
 | [] => by simp [quot]
 | [_] => by simp [quot]
 | _ :: d :: ds => fun c hc => by
  rw [quot, List.mem_cons] at hc
  rcases hc with rfl | hc
  · exact valF_el ok _ _
  · exact quot_el ok r (d :: ds) c hc
theorem quot_eq (ok : F.Ok) (x r : Int) : ∀ p : List Int, F.sub (valF F x p) (valF F r p) = F.mul (F.sub x r) (valF F x (quot F r p))
 | [] => by show F.sub 0 0 = F.mul _ 0; rw [sub_self' ok, mul_zero_all ok]
 | [c] => by
  show F.sub (F.add (F.mul 0 x) c) (F.add (F.mul 0 r) c) = F.mul _ 0
  rw [zero_mul_all ok, zero_mul_all ok, sub_self' ok, mul_zero_all ok]
 | c :: d :: ds => by
  have ih := quot_eq ok x r (d :: ds)
  rw [quot, valF_cons, valF_cons F r c, valF_cons F x (valF F r (d :: ds))]
  generalize valF F x (d :: ds) = g at ih
  generalize valF F r (d :: ds) = h at ih ⊢
  generalize valF F x (quot F r (d :: ds)) = Q at ih ⊢
  have hQ : F.mul (F.sub x r) (F.mul Q x) = F.sub (F.mul g x) (F.mul h x) := by
   rw [← mul_assoc_all ok, ← ih, sub_mul' ok]
  rw [mul_add' ok, hQ, sub_mul' ok x r h, mul_comm' ok x h, mul_comm' ok r h]
  exact lin_eq ok (lin_el ok _ _ _) (lin_el ok _ _ _) (fun i hi => D_lin2 ok hi (D_lin ok _ _ _ hi) (D_lin ok _ _ _ hi)) (fun i hi => D_lin2 ok hi (D_lin ok _ _ _ hi) (D_lin ok _ _ _ hi)) fun i => by omega
theorem quot_zero (ok : F.Ok) (r : Int) : ∀ p : List Int, (∀ c ∈ p, F.el c) → (∀ c ∈ quot F r p, c = 0) → ∀ c ∈ p.tail, c = 0
 | [] => by simp
 | [_] => by simp
 | c :: d :: ds => fun he hz => by
  have h1 := hz (valF F r (d :: ds)) (by rw [quot]; exact List.mem_cons_self)
  have h2 := quot_zero ok r (d :: ds) (fun x hx => he x (List.mem_cons_of_mem _ hx)) (fun x hx => hz x (by rw [quot]; exact List.mem_cons_of_mem _ hx))
  have h3 : valF F r ds = 0 := by
   clear h1 he hz
   induction ds with
   | nil => rfl
   | cons e es ih =>
    have he := h2 e (by simp)
    rw [valF_cons, ih (fun x hx => h2 x (by simp at hx ⊢; exact .inr hx)), zero_mul_all ok, he, add_zero' ok (zero_el ok)]
  rw [valF_cons, h3, zero_mul_all ok, zero_add' ok (he d (by simp))] at h1
  intro x hx
  simp only [List.tail_cons, List.mem_cons] at hx
  rcases hx with rfl | hx
  · exact h1
  · exact h2 x hx
theorem roots (hG : F.Good) : ∀ (k : Nat) (p : List Int), p.length ≤ k → (∀ c ∈ p, F.el c) → ∀ rs : List Int, rs.Nodup → (∀ r ∈ rs, F.el r ∧ valF F r p = 0) → k ≤ rs.length → ∀ c ∈ p, c = 0
 | 0, p, hp, _, _, _, _, _ => by
  have : p = [] := List.eq_nil_of_length_eq_zero (by omega)
  subst this
  simp
 | k + 1, p, hp, he, rs, hn, hr, hk => by
  have ok := hG.ok
  cases rs with
  | nil => simp at hk
  | cons r rs =>
   have hq := roots hG k (quot F r p) (by rw [quot_len]; omega) (quot_el ok r p) rs (List.nodup_cons.1 hn).2 (fun s hs => ⟨(hr s (List.mem_cons_of_mem _ hs)).1, by
    have e := quot_eq ok s r p
    rw [(hr s (List.mem_cons_of_mem _ hs)).2, (hr r List.mem_cons_self).2, sub_self' ok] at e
    rcases no_div hG (lin_el ok _ _ _ : F.el (F.sub s r)) (valF_el ok s _) e.symm with h | h
    · have := eq_of_sub ok (hr s (List.mem_cons_of_mem _ hs)).1 (hr r List.mem_cons_self).1 h
      subst this
      exact absurd hs (List.nodup_cons.1 hn).1
    · exact h⟩) (by simp at hk; omega)
   have hz := quot_zero ok r p he hq
   cases p with
   | nil => simp
   | cons c cs =>
    have h0 : valF F r cs = 0 := by
     have hz' : ∀ x ∈ cs, x = 0 := hz
     clear hz hq hr he hp
     induction cs with
     | nil => rfl
     | cons e es ih => rw [valF_cons, ih (fun x hx => hz' x (List.mem_cons_of_mem _ hx)), zero_mul_all ok, hz' e List.mem_cons_self, add_zero' ok (zero_el ok)]
    have h1 := (hr r List.mem_cons_self).2
    rw [valF_cons, h0, zero_mul_all ok, zero_add' ok (he c List.mem_cons_self)] at h1
    intro x hx
    rcases List.mem_cons.1 hx with rfl | hx
    · exact h1
    · exact hz x hx
end
end Go.Proofs.Ytgmgpcaahanmiaa
