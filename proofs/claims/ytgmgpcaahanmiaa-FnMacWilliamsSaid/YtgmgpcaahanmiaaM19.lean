/-
  Texts joined.
-/
import Derived.Lib.AppendZeros
import Derived.Test.YtgmgpcaahanmiaaM5
import Derived.Test.YtgmgpcaahanmiaaM6
import Derived.Test.YtgmgpcaahanmiaaM7
import Derived.Test.YtgmgpcaahanmiaaM15
import Derived.Test.YtgmgpcaahanmiaaM16
import Derived.Test.YtgmgpcaahanmiaaM18
set_option linter.unusedVariables false
set_option linter.unusedSimpArgs false
set_option maxRecDepth 100000
set_option maxHeartbeats 40000000
namespace Go.Proofs.Ytgmgpcaahanmiaa
open Go.RowKit
attribute [local go_sem ↓] Go.wp_at_zero Go.wp_at_succ
def CapS (w : World) (ra : Option Addr) (m : List (List Int)) : Prop := ∀ g ob, ra = some ⟨g, ob, none⟩ → ∀ k, k < m.length → ∀ ai n ci, w.cell? ⟨g, ob + k, none⟩ = some (.slice ai n ci) → n ≤ ci
theorem CapS.below {w w' : World} {ra : Option Addr} {m : List (List Int)} (h : CapS w ra m) (hm : RdS w ra m) (b : Below w.heap.size w w') : CapS w' ra m := by
 intro g ob e k hk ai n ci hc
 obtain ⟨g', ob', e', hg, _⟩ := hm.at_ (by omega)
 rw [e] at e'
 injection e' with e'
 injection e' with e1 e2
 subst e1
 exact h g ob e k hk ai n ci ((b.cell (p := ⟨g, ob + k, none⟩) hg).symm.trans hc)
end Go.Proofs.Ytgmgpcaahanmiaa
namespace Go.Proofs.Ytgmgpcaahanmiaa
open Go.RowKit
attribute [local go_sem ↓] Go.wp_at_zero Go.wp_at_succ
theorem RdS.two {w : World} {g : Nat} {a1 a2 : Option Addr} {c1 c2 : Nat} {x1 x2 : List Int} (h1 : w.cell? ⟨g, 0, none⟩ = some (.slice a1 x1.length c1)) (h2 : w.cell? ⟨g, 1, none⟩ = some (.slice a2 x2.length c2)) (r1 : Rd w a1 x1) (r2 : Rd w a2 x2) : RdS w (some ⟨g, 0, none⟩) [x1, x2] := by
 refine ⟨by simp, fun _ => ⟨g, 0, rfl, fun i hi => ?_⟩⟩
 rcases i with _ | _ | i
 · exact ⟨a1, c1, h1, r1⟩
 · exact ⟨a2, c2, h2, r2⟩
 · exact absurd hi (by simp only [List.length_cons, List.length_nil]; omega)
end Go.Proofs.Ytgmgpcaahanmiaa
namespace Go.Proofs.Ytgmgpcaahanmiaa
open Go.RowKit
section
variable {F : FD} {n : Nat} {m : List (List Int)}
theorem dist_res (h : GC F n m) : distRes F.p F.k F.poly m = ((distC F n m : Int), 0) := by rw [distRes, if_pos h.okC, h.hn, fdR_eq]
end
end Go.Proofs.Ytgmgpcaahanmiaa
namespace Go.Proofs.Ytgmgpcaahanmiaa
open Go.RowKit
section
variable {F : FD} {n : Nat} {m : List (List Int)}
theorem dual_res (h : GC F n m) : dualRes F.p F.k F.poly m = mkC F (nul F m n) := by rw [dualRes, if_pos h.okC, fdR_eq, h.hn]
end
end Go.Proofs.Ytgmgpcaahanmiaa
namespace Go.Proofs.Ytgmgpcaahanmiaa
open Go.RowKit
theorem sumTo_mulN (p : Nat → Int) (b : Nat) : ∀ a : Nat, sumTo p (a * b) = sumTo (fun x => sumTo (fun t => p (x * b + t)) b) a
 | 0 => by rw [Nat.zero_mul]; rfl
 | a + 1 => by
  have key : ∀ c, sumTo p (a * b + c) = sumTo p (a * b) + sumTo (fun t => p (a * b + t)) c := by
   intro c
   induction c with
   | zero => show sumTo p (a * b) = sumTo p (a * b) + 0; omega
   | succ c ih =>
    show sumTo p (a * b + c) + p (a * b + c) = sumTo p (a * b) + (sumTo (fun t => p (a * b + t)) c + p (a * b + c))
    rw [ih]; omega
  rw [Nat.succ_mul, key b, sumTo_mulN p b a]
  rfl
theorem smv_num {q : Nat} (hq : 0 < q) : ∀ (k : Nat) (g : List Int → Int), smv q k g = sumTo (fun t => g (hig t q k)) (q ^ k)
 | 0, g => by
  show g [] = 0 + g (hig 0 q 0)
  rw [hig_zero]
  show g [] = 0 + g []
  omega
 | k + 1, g => by
  rw [Nat.pow_succ, Nat.mul_comm, sumTo_mulN]
  refine sumTo_congr fun x hx => ?_
  rw [smv_num hq k]
  exact sumTo_congr fun t ht => by rw [hig_cons hq k hx ht]
theorem smv_sum {q : Nat} (f : Nat → List Int → Int) (k : Nat) : ∀ M, sumTo (fun t => smv q k (f t)) M = smv q k fun v => sumTo (fun t => f t v) M
 | 0 => (smv_zero k).symm
 | M + 1 => by
  show sumTo (fun t => smv q k (f t)) M + smv q k (f M) = smv q k fun v => sumTo (fun t => f t v) M + f M v
  rw [smv_sum f k M, smv_add]
theorem sumTo_count (h : Nat → Nat) (g : Nat → Int) (n : Nat) : ∀ M, (∀ t, t < M → h t ≤ n) → sumTo (fun i => (((List.range M).countP fun t => h t == i : Nat) : Int) * g i) (n + 1) = sumTo (fun t => g (h t)) M := by
 intro M
 induction M with
 | zero =>
  intro _
  rw [sumTo_congr (g := fun _ => 0) fun i _ => by show (0 : Int) * g i = 0; rw [Int.zero_mul], sumTo_const, Int.mul_zero]
  rfl
 | succ M ih =>
  intro hb
  have hM := hb M (by omega)
  show _ = sumTo (fun t => g (h t)) M + g (h M)
  rw [← ih fun t ht => hb t (by omega)]
  have e : ∀ i, i < n + 1 → (((List.range (M + 1)).countP fun t => h t == i : Nat) : Int) * g i = (((List.range M).countP fun t => h t == i : Nat) : Int) * g i + (if i = h M then g i else 0) := fun i _ => by
   rw [List.range_succ, List.countP_append]
   by_cases hi : i = h M
   · subst hi
     rw [if_pos rfl]
     simp only [List.countP_cons, List.countP_nil, beq_self_eq_true, if_true]
     rw [Int.natCast_add, Int.add_mul]
     show _ + ((0 + 1 : Nat) : Int) * g (h M) = _
     rw [show ((0 + 1 : Nat) : Int) = 1 from rfl, Int.one_mul]
   · rw [if_neg hi]
     have : (h M == i) = false := by rw [beq_eq_false_iff_ne]; exact fun e => hi e.symm
     simp only [List.countP_cons, List.countP_nil, this]
     simp
  rw [sumTo_congr e, sumTo_add]
  congr 1
  rw [sumTo_one (g (h M)) 0 (x0 := h M) (by omega) (if_pos rfl) fun x _ hne => if_neg hne, Int.mul_zero]
  omega
section
variable {F : FD} {n : Nat} {m : List (List Int)}
theorem wl_wt (v : List Int) : wt v = wl v := by
 have h1 : ∀ v : List Int, v.countP (fun x => x != 0) = wl v := by
  intro v
  induction v with
  | nil => rfl
  | cons x v ih =>
   rw [List.countP_cons, ih, wl]
   by_cases h : x = 0
   · simp [h]
   · simp [h]
 rw [wt_wf rfl, wf, ← h1 v]
 have e : v = (List.range v.length).map (nth v) := eq_of_nth (by simp) fun i hi => by simp [nth, hi]
 conv => rhs; rw [e]
 rw [List.countP_map]
 rfl
theorem phi_all (hG : F.Good) : ∀ (u : List Int), (∀ x ∈ u, 0 ≤ x ∧ x < F.n) → ∀ b, F.el b → smv F.n u.length (fun v => phi F (F.add b (lf F u v))) = if (∀ x ∈ u, x = 0) then ((F.n ^ u.length : Nat) : Int) * phi F b else 0 := by
 have ok := hG.ok
 obtain ⟨n2, _⟩ := ok.n_bd
 intro u
 induction u with
 | nil =>
  intro _ b hb
  show phi F (F.add b 0) = _
  rw [if_pos (by simp), add_zero' ok hb]
  show _ = ((1 : Nat) : Int) * phi F b
  rw [show ((1 : Nat) : Int) = 1 from rfl, Int.one_mul]
 | cons u0 u ih =>
  intro hel b hb
  have h0 := hel u0 List.mem_cons_self
  have hu : ∀ x ∈ u, 0 ≤ x ∧ x < F.n := fun x hx => hel x (List.mem_cons_of_mem _ hx)
  have hs : smv F.n (u0 :: u).length (fun v => phi F (F.add b (lf F (u0 :: u) v))) = sumTo (fun x => if (∀ x ∈ u, x = 0) then ((F.n ^ u.length : Nat) : Int) * phi F (F.add b (F.mul u0 (x : Int))) else 0) F.n := by
   show sumTo (fun x => smv F.n u.length fun v => phi F (F.add b (lf F (u0 :: u) ((x : Int) :: v)))) F.n = _
   refine sumTo_congr fun x _ => ?_
   rw [← ih hu (F.add b (F.mul u0 x)) (lin_el ok _ _ _)]
   exact smv_congr u.length fun v _ _ => by
    show phi F (F.add b (F.add (F.mul u0 x) (lf F u v))) = _
    rw [add_assoc' ok]
  rw [hs]
  by_cases hz : ∀ x ∈ u, x = 0
  · rw [sumTo_congr fun x _ => if_pos hz, sumTo_mul]
    by_cases h1 : u0 = 0
    · rw [if_pos (fun x hx => by
        rcases List.mem_cons.1 hx with h | h
        · rw [h, h1]
        · exact hz x h), sumTo_congr (g := fun _ => phi F b) fun x _ => by rw [h1, zero_mul_all ok, add_zero' ok hb], sumTo_const, List.length_cons, Nat.pow_succ, Int.natCast_mul, Int.mul_assoc]
    · rw [phi_sum hG (by omega) h0.2 hb, Int.mul_zero, if_neg fun h => h1 (h u0 List.mem_cons_self)]
  · rw [sumTo_congr fun x _ => if_neg hz, sumTo_const, Int.mul_zero, if_neg fun h => hz fun x hx => h x (List.mem_cons_of_mem _ hx)]
def prods (F : FD) (n : Nat) (m : List (List Int)) (v : List Int) : List Int := m.map fun row => dt F n (nth row) (nth v)
theorem prods_len (F : FD) (n : Nat) (m : List (List Int)) (v : List Int) : (prods F n m v).length = m.length := by simp [prods]
theorem prods_nth (F : FD) (n : Nat) (m : List (List Int)) (v : List Int) {l : Nat} (hl : l < m.length) : nth (prods F n m v) l = dt F n (nth (nthL m l)) (nth v) := by simp [prods, nth, nthL, hl]
theorem prods_el (ok : F.Ok) (n : Nat) (m : List (List Int)) (v : List Int) : ∀ x ∈ prods F n m v, 0 ≤ x ∧ x < F.n := fun x hx => by
 rw [prods, List.mem_map] at hx
 obtain ⟨row, _, rfl⟩ := hx
 exact (el_n ok).1 (sum_el ok _ _)
theorem dt_enc (ok : F.Ok) (hM : F.Mat n m) (msg v : List Int) : ∀ k, k ≤ m.length → dt F n (nth (encTo F n m msg k)) (nth v) = F.sum (fun l => F.mul (nth msg l) (dt F n (nth (nthL m l)) (nth v))) k := by
 intro k
 induction k with
 | zero =>
  intro _
  rw [encTo, show nth (zeros n) = fun _ => 0 from by funext i; exact zeros_nth n i, dt_zero ok]
  rfl
 | succ k ih =>
  intro hk
  have e : dt F n (nth (encTo F n m msg (k + 1))) (nth v) = dt F n (fun i => F.add (nth (encTo F n m msg k) i) (F.mul (nth msg k) (nth (nthL m k) i))) (nth v) := sum_congr fun i hi => by
   rw [encTo, addTo_nth F _ _ _ _ (by rw [encTo_len]; exact Nat.le_refl _), if_pos hi]
  rw [e, dt_add ok, dt_mul ok, ih (by omega), FD.sum]
theorem lf_word (ok : F.Ok) (hM : F.Mat n m) {msg v : List Int} (hl : msg.length = m.length) (hv : v.length = n) : lf F (encTo F n m msg m.length) v = lf F (prods F n m v) msg := by
 rw [lf_sum ok n (encTo_len _ _ _ _ _) hv, lf_sum ok m.length (prods_len _ _ _ _) hl]
 have h := dt_enc ok hM msg v m.length (Nat.le_refl _)
 rw [dt] at h
 rw [h]
 exact sum_congr fun l hl2 => by rw [prods_nth F n m v hl2, mul_comm' ok]
theorem mw_sum (h : GC F n m) {j : Nat} (_hj : j ≤ n) (hw : ∀ v : List Int, v.length = n → (∀ x ∈ v, 0 ≤ x ∧ x < F.n) → ((∀ x ∈ prods F n m v, x = 0) ↔ Or F n m (nth v))) :
    ((F.n : Int) - 1) * sumTo (fun i => nth (wts F n m) i * kR F.n n i j) (n + 1) =
     ((F.n ^ m.length : Nat) : Int) * ((F.n : Int) - 1) * smv F.n n (fun v => if wl v = j ∧ (∀ x ∈ prods F n m v, x = 0) then 1 else 0) := by
 have hG := h.good
 have ok := hG.ok
 obtain ⟨n2, _⟩ := ok.n_bd
 have hn32 := h.n32
 have hbd : ∀ t, t < F.n ^ m.length → wt (nthL (wordsTo F n m m.length) t) ≤ n := fun t ht => by
  rw [wt, (h.word_sp ht).1]
  exact wtTo_le _ _
 have e1 : sumTo (fun i => nth (wts F n m) i * kR F.n n i j) (n + 1) = sumTo (fun t => kR F.n n (wt (nthL (wordsTo F n m m.length) t)) j) (F.n ^ m.length) := by
  rw [← sumTo_count (fun t => wt (nthL (wordsTo F n m m.length) t)) (fun i => kR F.n n i j) n _ hbd]
  exact sumTo_congr fun i hi => by rw [h.wts_count (by omega)]
 rw [e1, ← sumTo_mul]
 have e2 : ∀ t, t < F.n ^ m.length → ((F.n : Int) - 1) * kR F.n n (wt (nthL (wordsTo F n m m.length) t)) j = smv F.n n (fun v => if wl v = j then phi F (F.add 0 (lf F (prods F n m v) (hig t F.n m.length))) else 0) := fun t ht => by
  obtain ⟨a1, a2, a3⟩ := h.word_sp ht
  have hs := sj_eq hG (nthL (wordsTo F n m m.length) t) a2 j 0 (zero_el ok)
  rw [phi, if_pos rfl, a1, ← wl_wt, ← kR_kS hn32 (hbd t ht)] at hs
  rw [← hs, sj, a1]
  exact smv_congr n fun v hv _ => by
   rw [wordsTo_nth F n m ht, lf_word ok h.mat (hig_len _ _ _) hv]
 rw [sumTo_congr e2, smv_sum, ← smv_mul]
 exact smv_congr n fun v hv hvb => by
  by_cases hj : wl v = j
  · rw [sumTo_congr fun t _ => if_pos hj]
    have hp := phi_all hG (prods F n m v) (prods_el ok _ _ _) 0 (zero_el ok)
    rw [prods_len, smv_num (by omega)] at hp
    rw [hp]
    by_cases hz : ∀ x ∈ prods F n m v, x = 0
    · rw [if_pos hz, if_pos ⟨hj, hz⟩, phi, if_pos rfl, Int.mul_one]
    · rw [if_neg hz, if_neg fun h => hz h.2, Int.mul_zero]
  · rw [sumTo_congr fun t _ => if_neg hj, sumTo_const, Int.mul_zero, if_neg fun h => hj h.1, Int.mul_zero]
end
end Go.Proofs.Ytgmgpcaahanmiaa
namespace Go.Proofs.Ytgmgpcaahanmiaa
open Go.RowKit
section
variable {F : FD} {n R : Nat} {C A : List (List Int)}
theorem cnt_uniq {p : Nat → Bool} {j0 : Nat} : ∀ M, (∀ j, j < M → (p j = true ↔ j = j0)) → (List.range M).countP p = if j0 < M then 1 else 0 := by
 intro M
 induction M with
 | zero => intro _; rw [if_neg (by omega)]; rfl
 | succ M ih =>
  intro h
  rw [List.range_succ, List.countP_append, ih fun j hj => h j (by omega)]
  have hm := h M (by omega)
  by_cases e : M = j0
  · have : p M = true := hm.2 e
    rw [if_neg (by omega), if_pos (by omega)]
    simp [this]
  · have : p M = false := by
      rw [← Bool.not_eq_true]
      exact fun h2 => e (hm.1 h2)
    by_cases h3 : j0 < M
    · rw [if_pos h3, if_pos (by omega)]; simp [this]
    · rw [if_neg h3, if_neg (by omega)]; simp [this]
end
end Go.Proofs.Ytgmgpcaahanmiaa
namespace Go.Proofs.Ytgmgpcaahanmiaa
open Go.RowKit
theorem sumTo_ite (p : Nat → Bool) (M : Nat) : sumTo (fun t => if p t = true then 1 else 0) M = (((List.range M).countP p : Nat) : Int) := by
 induction M with
 | zero => rfl
 | succ M ih =>
  rw [sumTo, ih, List.range_succ, List.countP_append]
  by_cases h : p M = true
  · rw [if_pos h]; simp [h]
  · rw [if_neg h]; simp [h]
theorem countP_bij {p r : Nat → Bool} {A B : Nat} (f : Nat → Nat) (h1 : ∀ s, s < B → r s = true → f s < A ∧ p (f s) = true) (h2 : ∀ s t, s < B → t < B → r s = true → r t = true → f s = f t → s = t) (h3 : ∀ t, t < A → p t = true → ∃ s, s < B ∧ r s = true ∧ f s = t) : (List.range A).countP p = (List.range B).countP r := by
 rw [List.countP_eq_length_filter, List.countP_eq_length_filter]
 have hn : (((List.range B).filter r).map f).Nodup := by
  rw [List.Nodup, List.pairwise_map]
  refine List.Pairwise.imp_of_mem (fun {a b} ha hb hab e => ?_) (List.Pairwise.filter r List.nodup_range : ((List.range B).filter r).Nodup)
  obtain ⟨a1, a2⟩ := List.mem_filter.1 ha
  obtain ⟨b1, b2⟩ := List.mem_filter.1 hb
  exact hab (h2 a b (List.mem_range.1 a1) (List.mem_range.1 b1) a2 b2 e)
 have l1 := nodup_len (p := (List.range A).filter p) (q := ((List.range B).filter r).map f) (List.Pairwise.filter _ List.nodup_range) fun t ht => by
  obtain ⟨a1, a2⟩ := List.mem_filter.1 ht
  obtain ⟨s, b1, b2, rfl⟩ := h3 t (List.mem_range.1 a1) a2
  exact List.mem_map_of_mem (List.mem_filter.2 ⟨List.mem_range.2 b1, b2⟩)
 have l2 := nodup_len (p := ((List.range B).filter r).map f) (q := (List.range A).filter p) hn fun t ht => by
  obtain ⟨s, hs, rfl⟩ := List.mem_map.1 ht
  obtain ⟨b1, b2⟩ := List.mem_filter.1 hs
  obtain ⟨c1, c2⟩ := h1 s (List.mem_range.1 b1) b2
  exact List.mem_filter.2 ⟨List.mem_range.2 c1, c2⟩
 rw [List.length_map] at l1 l2
 omega
section
variable {F : FD} {n : Nat} {m : List (List Int)}
theorem prods_or (h : GC F n m) {v : List Int} (hv : v.length = n) (he : ∀ x ∈ v, 0 ≤ x ∧ x < F.n) : (∀ x ∈ prods F n m v, x = 0) ↔ Sp F (nul F m n) (nth v) := by
 have ok := h.good.ok
 rw [(nul_spec h.good h.mat).1 _ (nth_el' ok he) fun i hi => nth_big (by omega)]
 constructor
 · intro hz j hj
   rw [← prods_nth F n m v hj]
   exact hz _ (nth_mem (by rw [prods_len]; exact hj))
 · intro ho x hx
   obtain ⟨l, hl, rfl⟩ := List.getElem_of_mem hx
   rw [prods_len] at hl
   rw [← nth_lt (by rw [prods_len]; exact hl), prods_nth F n m v hl]
   exact ho l hl
theorem mw_count (h : GC F n m) (hN : GC F n (nul F m n)) {j : Nat} (hj : j ≤ n) : smv F.n n (fun v => if wl v = j ∧ (∀ x ∈ prods F n m v, x = 0) then 1 else 0) = nth (wts F n (nul F m n)) j := by
 have ok := h.good.ok
 obtain ⟨n2, _⟩ := ok.n_bd
 generalize hNN : nul F m n = N at *
 rw [smv_num (by omega), hN.wts_count hj]
 have hsp : ∀ t, (wl (hig t F.n n) = j ∧ (∀ x ∈ prods F n m (hig t F.n n), x = 0)) ↔ (wl (hig t F.n n) = j ∧ Sp F N (nth (hig t F.n n))) := fun t => by
  rw [prods_or h (hig_len _ _ _) (hig_el t (by omega) n), hNN]
 have e : ∀ t, t < F.n ^ n → (if wl (hig t F.n n) = j ∧ (∀ x ∈ prods F n m (hig t F.n n), x = 0) then (1 : Int) else 0) = if (decide (wl (hig t F.n n) = j ∧ (∀ x ∈ prods F n m (hig t F.n n), x = 0))) = true then 1 else 0 := fun t _ => by
  by_cases h1 : wl (hig t F.n n) = j ∧ (∀ x ∈ prods F n m (hig t F.n n), x = 0)
  · rw [if_pos h1, if_pos (decide_eq_true h1)]
  · rw [if_neg h1, if_neg (by rw [decide_eq_false h1]; simp)]
 rw [sumTo_congr e, sumTo_ite]
 congr 1
 have hex : ∀ s, s < F.n ^ N.length → ∃ t, t < F.n ^ n ∧ hig t F.n n = nthL (wordsTo F n N N.length) s := fun s hs => by
  obtain ⟨a1, a2, _⟩ := hN.word_sp hs
  exact hig_all ok a1 a2
 refine countP_bij (fun s => if hs : s < F.n ^ N.length then Classical.choose (hex s hs) else 0) (fun s hs hr => ?_) (fun s t hs ht _ _ he => ?_) fun t ht hp => ?_
 · have hc := Classical.choose_spec (hex s hs)
   simp only [dif_pos hs]
   refine ⟨hc.1, decide_eq_true ((hsp _).2 ?_)⟩
   rw [hc.2]
   obtain ⟨_, _, a3⟩ := hN.word_sp hs
   refine ⟨?_, a3⟩
   rw [← wl_wt]
   exact beq_iff_eq.1 hr
 · simp only [dif_pos hs, dif_pos ht] at he
   have hc := Classical.choose_spec (hex s hs)
   have hd := Classical.choose_spec (hex t ht)
   exact hN.word_inj hs ht (by rw [← hc.2, ← hd.2, he])
 · obtain ⟨p1, p2⟩ := (hsp t).1 (of_decide_eq_true hp)
   obtain ⟨s, hs, hw⟩ := hN.sp_word (hig_len _ _ _) p2
   refine ⟨s, hs, by rw [hw, wl_wt, p1]; simp, ?_⟩
   simp only [dif_pos hs]
   have hc := Classical.choose_spec (hex s hs)
   exact hig_inj (by omega) hc.1 ht (by rw [hc.2, hw])
theorem dwTo_sum (q : Int) (n : Nat) (ws : List Int) (j : Nat) : ∀ i, dwTo q n ws j i = sumTo (fun i => nth ws i * kR q n i j) i
 | 0 => rfl
 | i + 1 => by rw [dwTo, dwTo_sum q n ws j i]; rfl
theorem mac_id (h : GC F n m) (hN : GC F n (nul F m n)) {j : Nat} (hj : j ≤ n) : dwTo F.n n (wts F n m) j (n + 1) = ((F.n ^ m.length : Nat) : Int) * nth (wts F n (nul F m n)) j := by
 have ok := h.good.ok
 obtain ⟨n2, _⟩ := ok.n_bd
 have hs := mw_sum h hj fun v hv he => by
  rw [prods_or h hv he, (nul_spec h.good h.mat).1 _ (nth_el' ok he) fun i hi => nth_big (by omega)]
 rw [mw_count h hN hj, ← dwTo_sum] at hs
 refine Int.eq_of_mul_eq_mul_left (a := (F.n : Int) - 1) (by omega) ?_
 rw [hs, Int.mul_comm ((F.n ^ m.length : Nat) : Int), Int.mul_assoc]
theorem mac_dw (h : GC F n m) (hN : GC F n (nul F m n)) : dwRes F.p F.k F.poly m = (wts F n (nul F m n), 0) ∨ (dwRes F.p F.k F.poly m).2 = 2 := by
 have ok := h.good.ok
 obtain ⟨n2, _⟩ := ok.n_bd
 rw [dwRes, if_pos h.okC, fdR_eq, h.hn, dwV]
 split
 · refine .inl ?_
   have e : dwL F.n ((F.n ^ m.length : Nat) : Int) n (wts F n m) (n + 1) = wts F n (nul F m n) := eq_of_nth (by rw [dwL_len, wts_len]) fun j hj => by
    rw [dwL_len] at hj
    have hp : ((F.n ^ m.length : Nat) : Int) ≠ 0 := by
     have := Nat.pow_pos (n := m.length) (show 0 < F.n by omega)
     omega
    rw [show nth (dwL F.n ((F.n ^ m.length : Nat) : Int) n (wts F n m) (n + 1)) j = (dwTo F.n n (wts F n m) j (n + 1)).tdiv ((F.n ^ m.length : Nat) : Int) from by simp [dwL, nth, hj], mac_id h hN (by omega), Int.mul_tdiv_cancel_left _ hp]
   rw [e]
 · exact .inr rfl
theorem dw_code (h : GC F n m) : (dwRes F.p F.k F.poly m).2 = 0 ∨ (dwRes F.p F.k F.poly m).2 = 2 := by
 rw [dwRes, if_pos h.okC, fdR_eq, dwV]
 split
 · exact .inl rfl
 · exact .inr rfl
theorem wts_law (h : GC F n m) : (wts F n m).length = n + 1 ∧ nth (wts F n m) 0 = 1 ∧ 1 ≤ distC F n m ∧ distC F n m ≤ n ∧ nth (wts F n m) (distC F n m) ≠ 0 ∧ (∀ i, 1 ≤ i → i < distC F n m → nth (wts F n m) i = 0) ∧ sumTo (nth (wts F n m)) (n + 1) = ((F.n ^ m.length : Nat) : Int) := by
 have ok := h.good.ok
 obtain ⟨n2, _⟩ := ok.n_bd
 obtain ⟨d0, h1, h2, h3⟩ := h.some_wt
 have hl := leastD_ok h1 (by rw [wts_len]; omega) h3
 have hd := h.dist
 refine ⟨wts_len _ _ _, ?_, hd.1, hd.2, hl.2.2.1, hl.2.2.2, ?_⟩
 · have hz : Sp F m (nth (zeros n)) := by
     have e : nth (zeros n) = fun _ => 0 := by funext i; exact zeros_nth _ i
     rw [e]; exact .zero
   obtain ⟨j0, hj0, e0⟩ := h.sp_word (zeros_len _) hz
   rw [h.wts_count (Nat.zero_le _), cnt_uniq (j0 := j0) _ fun j hj => ?_, if_pos hj0]
   · rfl
   · obtain ⟨a1, _, _⟩ := h.word_sp hj
     rw [beq_iff_eq, wt_wf a1]
     constructor
     · intro hw
       have hword : nthL (wordsTo F n m m.length) j = zeros n := eq_of_nth (by rw [a1, zeros_len]) fun i hi => by
        rw [a1] at hi
        rw [zeros_nth]
        refine Classical.byContradiction fun hne => ?_
        have := wf_one (v := nth (nthL (wordsTo F n m m.length) j)) hi hne
        omega
       exact h.word_inj hj hj0 (by rw [hword, e0])
     · intro e
       rw [e, e0, wf, List.countP_eq_zero]
       intro i _
       rw [zeros_nth]
       simp
 · have hbd : ∀ t, t < F.n ^ m.length → wt (nthL (wordsTo F n m m.length) t) ≤ n := fun t ht => by
     rw [wt, (h.word_sp ht).1]
     exact wtTo_le _ _
   have hc := sumTo_count (fun t => wt (nthL (wordsTo F n m m.length) t)) (fun _ => 1) n _ hbd
   rw [sumTo_const, Int.mul_one] at hc
   rw [← hc]
   exact sumTo_congr fun i hi => by rw [h.wts_count (by omega), Int.mul_one]
theorem dual_nul (h : GC F n m) (hc : (dualRes F.p F.k F.poly m).2.2.2.2 = 0) : dualRes F.p F.k F.poly m = (F.p, (F.k : Int), F.poly, nul F m n, 0) ∧ GC F n (nul F m n) := by
 have ok := h.good.ok
 rw [dual_res h] at hc ⊢
 have hN : F.Mat n (nulB F m n) := nulTo_Mat ok _ _ _ _
 obtain ⟨hC, hm⟩ := mkC_gc h.good hN h.n1 h.n32 hc
 exact ⟨hm, hC⟩
theorem wts_res (h : GC F n m) : wtsRes F.p F.k F.poly m = (wts F n m, 0) := by rw [wtsRes, if_pos h.okC, fdR_eq, h.hn]
theorem wo_res (h : GC F n m) : woRes F.p F.k F.poly m = wordsTo F n m m.length := by rw [woRes, if_pos h.okC, fdR_eq, h.hn]
theorem sumTo_bd {f : Nat → Int} (h : ∀ i, 0 ≤ f i ∧ f i ≤ 4096) : ∀ k : Nat, 0 ≤ sumTo f k ∧ sumTo f k ≤ 4096 * (k : Int)
 | 0 => by rw [sumTo]; omega
 | k + 1 => by
  have a := sumTo_bd h k
  have b := h k
  rw [sumTo]
  omega
end
end Go.Proofs.Ytgmgpcaahanmiaa
