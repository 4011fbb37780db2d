/-
  Texts joined.
-/
import Derived.Test.YtgmgpcaahanmiaaM1
import Derived.Test.YtgmgpcaahanmiaaM2
import Derived.Test.YtgmgpcaahanmiaaM4
import Derived.Test.YtgmgpcaahanmiaaM5
set_option linter.unusedVariables false
set_option linter.unusedSimpArgs false
set_option maxRecDepth 100000
set_option maxHeartbeats 40000000
namespace Go.Proofs.Ytgmgpcaahanmiaa
open Go.RowKit
attribute [local go_sem ↓] Go.wp_at_zero Go.wp_at_succ
def scale (F : FD) (c : Int) (xs : List Int) : List Int := xs.map (F.mul c)
def less (F : FD) (v w : List Int) (c : Int) : List Int := (List.range v.length).map fun (i : Nat) => F.sub (nth v i) (F.mul c (nth w i))
theorem scale_len (F : FD) (c : Int) (xs : List Int) : (scale F c xs).length = xs.length := by simp [scale]
theorem less_len (F : FD) (v w : List Int) (c : Int) : (less F v w c).length = v.length := by simp [less]
theorem scale_nth (F : FD) (c : Int) {xs : List Int} {i : Nat} (h : i < xs.length) : nth (scale F c xs) i = F.mul c (nth xs i) := by
 rw [nth_lt (by rw [scale_len]; exact h), nth_lt h]; simp [scale]
theorem less_nth (F : FD) (v w : List Int) (c : Int) {i : Nat} (h : i < v.length) : nth (less F v w c) i = F.sub (nth v i) (F.mul c (nth w i)) := by
 simp [less, nth, h]
def lessTo (F : FD) (v w : List Int) (c : Int) (k : Nat) : List Int := (List.range k).map fun (i : Nat) => F.sub (nth v i) (F.mul c (nth w i))
theorem lessTo_len (F : FD) (v w : List Int) (c : Int) (k : Nat) : (lessTo F v w c k).length = k := by simp [lessTo]
theorem lessTo_succ (F : FD) (v w : List Int) (c : Int) (k : Nat) : lessTo F v w c (k + 1) = lessTo F v w c k ++ [F.sub (nth v k) (F.mul c (nth w k))] := by simp [lessTo, List.range_succ]
theorem scale_take (F : FD) (c : Int) {xs : List Int} {k : Nat} (h : k < xs.length) : scale F c (xs.take (k + 1)) = scale F c (xs.take k) ++ [F.mul c (nth xs k)] := by
 rw [take_nth h]; simp [scale]
theorem mul_bd {F : FD} (ok : F.Ok) (a b : Int) : 0 ≤ F.mul a b ∧ F.mul a b < F.n := by
 have := mul_el ok a b
 rwa [FD.el, ok.n_eq] at this
theorem sub_bd {F : FD} (ok : F.Ok) (a b : Int) : 0 ≤ F.sub a b ∧ F.sub a b < F.n := by
 have := lin_range (show 0 < F.p by have := ok.p2; omega) (-1) F.k a b
 rwa [ok.n_eq] at this
theorem add_bd {F : FD} (ok : F.Ok) (a b : Int) : 0 ≤ F.add a b ∧ F.add a b < F.n := by
 have := lin_range (show 0 < F.p by have := ok.p2; omega) 1 F.k a b
 rwa [ok.n_eq] at this
theorem l03Size_any (g : Nat) (F : FD) (w : World) (hF : PF w g F) (ok : F.Ok) :
    Calls Try.prog 198 #[.pointer (some ⟨g, 0, none⟩)] w fun e w' => e = .returned (.int .i64 F.n) ∧ Below w.heap.size w w' := by
 have hp2 := ok.p2
 have hp64 := ok.p64
 have hk6 := ok.k6
 have hq := ok.q64
 have hpow := fun W => l03Power_any F.p F.k W (by omega) (by omega) (by omega) (by omega)
 rw [ok.n_eq] at hpow
 have HP := hide hpow
 have boxes : ∀ (W : World), Below w.heap.size w W → (Below w.heap.size w W ∧ W.cell? ⟨g, 0, none⟩ = some (.int .i64 F.p) ∧ W.cell? ⟨g, 1, none⟩ = some (.int .i64 F.k)) := fun _ h => ⟨h, (hF.below h).1, (hF.below h).2.1⟩
 have BX := hide boxes
 clear hpow boxes
 go_enter Try.func198, Try.ntmps198
 go_upto_region 1 with fail
 go_region_held3 (fun W => Below w.heap.size w W ∧ W.cell? ⟨g, 0, none⟩ = some (.int .i64 F.p) ∧ W.cell? ⟨g, 1, none⟩ = some (.int .i64 F.k))
  (first | exact (unhide BX) _ (Below.refl _ _) | exact (unhide BX) _ ((Below.refl _ _).drew) | exact (unhide BX) _ (by assumption))
  (first
   | (go_at_call 208; refine (unhide HP _).mono ?_; rintro e W1 ⟨rfl, rfl⟩))
 go_wp2
 go_ret
 exact ⟨rfl, (Below.refl _ _).drew⟩
theorem l03Inverse_any (g : Nat) (F : FD) (a : Int) (w : World) (hF : PF w g F) (hG : F.Good) (h1 : 1 ≤ a) (ha : a < F.n) :
    Calls Try.prog 227 #[.pointer (some ⟨g, 0, none⟩), .int .i64 a] w fun e w' => e = .returned (.int .i64 (F.inv a)) ∧ Below w.heap.size w w' := by
 have ok := hG.ok
 obtain ⟨n2, n64⟩ := ok.n_bd
 obtain ⟨i1, i2, i3, i4⟩ := inv_spec hG h1 ha
 generalize F.inv a = I at i1 i2 i3 i4
 have I1 := Lib.hid i1
 have I4 := hide i4
 clear i1 i4
 go_enter Try.func227, Try.ntmps227
 go_wp2
 go_loopw [5] (fun bv wr => ∃ (b : Nat), bv = .int .i64 b ∧ 1 ≤ b ∧ (b : Int) ≤ I ∧ Below w.heap.size w wr) (fun bv _ => (I - intOf bv).toNat)
 case atStart => exact ⟨1, rfl, by omega, by omega, Below.refl _ _⟩
 case round =>
  obtain ⟨b, rfl, hb1, hb2, hb⟩ := hrel
  have hm := l03Mul_any g F a b wr (hF.below hb) ok (by omega) (by omega) (by omega) (by omega)
  by_cases e : (b : Int) = I
  · have e1 : mulF F.p F.k F.poly a b = 1 := by rw [e]; exact I1.out
    rw [e1] at hm
    have HM := hide hm
    have E := Lib.hid e
    clear hm e e1
    go_wp2_with fail
    refine (unhide HM).mono ?_
    rintro e w1 ⟨rfl, b1⟩
    go_wp2
    go_ret
    exact ⟨ret_int E.out, hb.trans (b1.mono hb.size)⟩
  · have e1 := (unhide I4) b (by omega)
    rw [FD.mul] at e1
    generalize mulF F.p F.k F.poly a b = M at hm e1
    have HM := hide hm
    have e2 : (M != 1) = true := by rw [bne_iff_ne]; exact e1
    clear hm e1
    go_wp2_with fail
    refine (unhide HM).mono ?_
    rintro e w1 ⟨rfl, b1⟩
    go_wp2
    go_roundw
    case rel => exact ⟨b + 1, by go_num, by omega, by omega, hb.trans (b1.mono hb.size)⟩
    case measure => simp only [intOf]; omega
theorem l17Scale_any (g : Nat) (F : FD) (a : Option Addr) (c : Nat) (xs : List Int) (s : Int) (w : World) (hF : PF w g F) (ok : F.Ok) (hx : Rd w a xs) (hs0 : 0 ≤ s) (hs1 : s < F.n) (hm : ∀ x ∈ xs, 0 ≤ x ∧ x < F.n) :
    Calls Try.prog 86 #[.pointer (some ⟨g, 0, none⟩), .slice a xs.length c, .int .i64 s] w fun e w' => ∃ v, e = .returned v ∧ Own w' w.heap.size v (scale F s xs) ∧ Below w.heap.size w w' := by
 obtain ⟨n2, n64⟩ := ok.n_bd
 have hxl := hx.len
 go_enter Try.func86, Try.ntmps86
 go_wp2
 go_loopw [7, 8] (fun v iv wr => ∃ (k : Nat), iv = .int .i64 k ∧ k ≤ xs.length ∧ Hid (Own wr w.heap.size v (scale F s (xs.take k))) ∧ Below w.heap.size w wr) (fun _ iv _ => xs.length - (intOf iv).toNat)
 case atStart => exact ⟨0, rfl, Nat.zero_le _, Own.empty w (Nat.le_refl _), (Below.refl _ _).alloc (Nat.le_refl _) _⟩
 case round =>
  obtain ⟨k, rfl, hk, ho, hb⟩ := hrel
  have hsz := hb.size
  by_cases hkl : k < xs.length
  · obtain ⟨b1, o1, rfl, _, hc⟩ := (hx.below hb).at_ (by omega)
    have h1 := hc k hkl
    have hxr := hm _ (nth_mem hkl)
    have hst := scale_take F s hkl
    have hsl : (scale F s (xs.take k)).length = k := by rw [scale_len, List.length_take]; omega
    generalize nth xs k = x at h1 hxr hst
    have hmul := fun W h => l03Mul_any g F x s W h ok hxr.1 (by omega) hs0 (by omega)
    have hcm : mulF F.p F.k F.poly x s = F.mul s x := mul_comm' ok x s
    rw [hcm] at hmul
    generalize F.mul s x = M at hmul hst
    have HMUL := hide hmul
    have HST := Lib.hid hst
    have HSL := Lib.hid hsl
    clear hc hmul hcm hst hsl hm hx
    go_wp2_with fail
    refine (unhide HMUL _ (hF.below hb)).mono ?_
    rintro e w1 ⟨rfl, b1⟩
    have o1 := ho.out.below b1 (Nat.le_refl _)
    have hs1 := b1.size
    have hb1 := hb.trans (b1.mono hsz)
    go_wp2_with (at_builtin; refine wpList_append_ints rfl (.tmp 16) (.tmp 24) rfl w.heap.size u7 (scale F s (xs.take k)) [M] rfl (o1.alloc _) _ 1 1 rfl rfl (Rd.one w1 M _) (by rw [HSL.out]; simp; omega) (by simp; omega) ?_; intro v2 w2 o2 g2 _)
    go_roundw
    case rel => exact ⟨k + 1, by go_num, by omega, by show Own _ _ _ _; rw [HST.out]; exact o2, Below.step (hb1.alloc (by omega) _) g2 (o1.alloc _) (Nat.le_refl _) (by simp; omega)⟩
    case measure => simp only [intOf]; omega
  · have hke : k = xs.length := by omega
    have HE := Lib.hid hke
    clear hke
    go_wp2
    go_ret
    exact ⟨_, rfl, by have o := ho.out; rw [HE.out, List.take_length] at o; exact o, hb⟩
end Go.Proofs.Ytgmgpcaahanmiaa
namespace Go.Proofs.Ytgmgpcaahanmiaa
open Go.RowKit
def FD.Mat (F : FD) (n : Nat) (xss : List (List Int)) : Prop := ∀ xs ∈ xss, xs.length = n ∧ ∀ x ∈ xs, 0 ≤ x ∧ x < F.n
def pivAt (rows : List (List Int)) (c t : Nat) : Nat := ((List.range rows.length).find? (fun i => decide (t ≤ i) && (nth (nthL rows i) c != 0))).getD rows.length
theorem pivAt_hit {rows : List (List Int)} {c t i : Nat} (h1 : t ≤ i) (h2 : i < rows.length) (h3 : nth (nthL rows i) c ≠ 0) (h4 : ∀ j, t ≤ j → j < i → nth (nthL rows j) c = 0) : pivAt rows c t = i := by
 have : (List.range rows.length).find? (fun i => decide (t ≤ i) && (nth (nthL rows i) c != 0)) = some i := by
  rw [List.find?_range_eq_some]
  refine ⟨by simp [h1, h3], List.mem_range.2 h2, fun j hj => ?_⟩
  by_cases h : t ≤ j
  · simp [h4 j h hj]
  · simp [h]
 rw [pivAt, this]; rfl
theorem pivAt_none {rows : List (List Int)} {c t : Nat} (h : ∀ j, t ≤ j → j < rows.length → nth (nthL rows j) c = 0) : pivAt rows c t = rows.length := by
 have : (List.range rows.length).find? (fun i => decide (t ≤ i) && (nth (nthL rows i) c != 0)) = none := by
  rw [List.find?_eq_none]
  intro j hj
  by_cases ht : t ≤ j
  · simp [h j ht (List.mem_range.1 hj)]
  · simp [ht]
 rw [pivAt, this]; rfl
section
variable (F : FD) (c t : Nat)
def elimTo (rows : List (List Int)) : Nat → List (List Int)
 | 0 => rows
 | j + 1 => if j = t then elimTo rows j else (elimTo rows j).set j (less F (nthL rows j) (nthL rows t) (nth (nthL rows j) c))
def topped (rows : List (List Int)) (i : Nat) : List (List Int) := (rows.set i (nthL rows t)).set t (scale F (F.inv (nth (nthL rows i) c)) (nthL rows i))
def redOne (rows : List (List Int)) (i : Nat) : List (List Int) := elimTo F c t (topped F c t rows i) rows.length
end
def stepR (F : FD) (s : List (List Int) × List Int) (c : Nat) : List (List Int) × List Int :=
 if s.2.length < s.1.length ∧ pivAt s.1 c s.2.length < s.1.length then (redOne F c s.2.length s.1 (pivAt s.1 c s.2.length), s.2 ++ [(c : Int)]) else s
def red (F : FD) (rows : List (List Int)) : Nat → List (List Int) × List Int
 | 0 => (rows, [])
 | c + 1 => stepR F (red F rows c) c
section
variable {F : FD} {c t : Nat} {rows : List (List Int)}
theorem elimTo_len (F : FD) (c t : Nat) (rows : List (List Int)) (j : Nat) : (elimTo F c t rows j).length = rows.length := by
 induction j with
 | zero => rfl
 | succ j ih =>
  rw [elimTo]
  split
  · exact ih
  · rw [List.length_set, ih]
theorem elimTo_nth (j : Nat) (hj : j ≤ rows.length) (i : Nat) : nthL (elimTo F c t rows j) i = if i < j ∧ i ≠ t then less F (nthL rows i) (nthL rows t) (nth (nthL rows i) c) else nthL rows i := by
 induction j with
 | zero => rw [if_neg (by omega)]; rfl
 | succ j ih =>
  have ih := ih (by omega)
  rw [elimTo]
  by_cases e : j = t
  · rw [if_pos e, ih]
    by_cases h : i < j ∧ i ≠ t
    · rw [if_pos h, if_pos (by omega)]
    · rw [if_neg h, if_neg (by omega)]
  · rw [if_neg e]
    by_cases h : i = j
    · subst h
      rw [nthL_set_same (by rw [elimTo_len]; omega), if_pos (by omega)]
    · rw [nthL_set_ne (Ne.symm h), ih]
      by_cases g : i < j ∧ i ≠ t
      · rw [if_pos g, if_pos (by omega)]
      · rw [if_neg g, if_neg (by omega)]
theorem topped_len (F : FD) (c t : Nat) (rows : List (List Int)) (i : Nat) : (topped F c t rows i).length = rows.length := by simp [topped]
theorem redOne_len (F : FD) (c t : Nat) (rows : List (List Int)) (i : Nat) : (redOne F c t rows i).length = rows.length := by rw [redOne, elimTo_len, topped_len]
theorem red_len (F : FD) (rows : List (List Int)) (c : Nat) : (red F rows c).1.length = rows.length := by
 induction c with
 | zero => rfl
 | succ c ih =>
  rw [red, stepR]
  split
  · rw [redOne_len, ih]
  · exact ih
theorem red_piv (F : FD) (rows : List (List Int)) (c : Nat) : (red F rows c).2.length ≤ rows.length := by
 induction c with
 | zero => simp [red]
 | succ c ih =>
  rw [red, stepR]
  split
  · rename_i h
    rw [red_len] at h
    rw [List.length_append]; simp; omega
  · exact ih
theorem red_full (h : ¬ (red F rows c).2.length < rows.length) {d : Nat} (hd : c ≤ d) : red F rows d = red F rows c := by
 induction d with
 | zero => obtain rfl : c = 0 := by omega
           rfl
 | succ d ih =>
  by_cases e : c = d + 1
  · rw [e]
  · rw [red, ih (by omega), stepR, if_neg (by rw [red_len]; exact fun h2 => h h2.1)]
theorem Mat_nth {n : Nat} (h : F.Mat n rows) {i : Nat} (hi : i < rows.length) : (nthL rows i).length = n ∧ ∀ x ∈ nthL rows i, 0 ≤ x ∧ x < F.n := h _ (nthL_mem hi)
theorem Mat_of {n : Nat} (h : ∀ i, i < rows.length → (nthL rows i).length = n ∧ ∀ x ∈ nthL rows i, 0 ≤ x ∧ x < F.n) : F.Mat n rows := by
 intro xs hx
 obtain ⟨i, hi, rfl⟩ := List.getElem_of_mem hx
 have := h i hi
 rwa [nthL_lt hi] at this
theorem scale_el (ok : F.Ok) (s : Int) (xs : List Int) : ∀ x ∈ scale F s xs, 0 ≤ x ∧ x < F.n := by
 intro x hx
 obtain ⟨y, _, rfl⟩ := List.mem_map.1 hx
 exact mul_bd ok _ _
theorem less_el (ok : F.Ok) (xs ys : List Int) (s : Int) : ∀ x ∈ less F xs ys s, 0 ≤ x ∧ x < F.n := by
 intro x hx
 obtain ⟨i, _, rfl⟩ := List.mem_map.1 hx
 exact sub_bd ok _ _
theorem topped_Mat (ok : F.Ok) {n : Nat} (h : F.Mat n rows) {i : Nat} (hi : i < rows.length) (ht : t < rows.length) : F.Mat n (topped F c t rows i) := by
 refine Mat_of fun j hj => ?_
 rw [topped_len] at hj
 unfold topped
 by_cases e : j = t
 · subst e
   rw [nthL_set_same (by rw [List.length_set]; exact hj)]
   exact ⟨by rw [scale_len]; exact (Mat_nth h hi).1, scale_el ok _ _⟩
 · rw [nthL_set_ne (Ne.symm e)]
   by_cases e2 : j = i
   · subst e2
     rw [nthL_set_same hi]
     exact Mat_nth h ht
   · rw [nthL_set_ne (Ne.symm e2)]
     exact Mat_nth h hj
theorem elimTo_Mat (ok : F.Ok) {n : Nat} (h : F.Mat n rows) (j : Nat) (hj : j ≤ rows.length) : F.Mat n (elimTo F c t rows j) := by
 refine Mat_of fun i hi => ?_
 rw [elimTo_len] at hi
 rw [elimTo_nth j hj]
 split
 · exact ⟨by rw [less_len]; exact (Mat_nth h hi).1, less_el ok _ _ _⟩
 · exact Mat_nth h hi
theorem red_Mat (ok : F.Ok) {n : Nat} (h : F.Mat n rows) (c : Nat) : F.Mat n (red F rows c).1 := by
 induction c with
 | zero => exact h
 | succ c ih =>
  rw [red, stepR]
  split
  · rename_i hh
    rw [redOne]
    exact elimTo_Mat ok (topped_Mat ok ih hh.2 hh.1) _ (by rw [topped_len]; exact Nat.le_refl _)
  · exact ih
end
end Go.Proofs.Ytgmgpcaahanmiaa
namespace Go.Proofs.Ytgmgpcaahanmiaa
open Go.RowKit
attribute [local go_sem ↓] Go.wp_at_zero Go.wp_at_succ
theorem tab_at {w : World} {a : Option Addr} {f : Int → Int → Int} {n : Nat} (h : RdS w a (rowsTo f n n)) {i j : Nat} (hi : i < n) (hj : j < n) :
    ∃ b off bi oi ci, a = some ⟨b, off, none⟩ ∧ w.cell? ⟨b, off + i, none⟩ = some (.slice (some ⟨bi, oi, none⟩) n ci) ∧ w.cell? ⟨bi, oi + j, none⟩ = some (.int .i64 (f i j)) := by
 obtain ⟨b, off, rfl, _, hc⟩ := h.at_ (by rw [rowsTo_len]; omega)
 obtain ⟨ai, ci, h1, h2⟩ := hc i (by rw [rowsTo_len]; exact hi)
 rw [rowsTo_nth f n hi] at h1 h2
 obtain ⟨bi, oi, rfl, _, hd⟩ := h2.at_ (by rw [rowF_len]; omega)
 have h3 := hd j (by rw [rowF_len]; exact hj)
 rw [rowF_len] at h1
 rw [rowF_nth f i hj] at h3
 exact ⟨b, off, bi, oi, ci, rfl, h1, h3⟩
def addTo (F : FD) (xs ys : List Int) (s : Int) : Nat → List Int
 | 0 => xs
 | k + 1 => (addTo F xs ys s k).set k (F.add (nth xs k) (F.mul s (nth ys k)))
theorem addTo_len (F : FD) (xs ys : List Int) (s : Int) (k : Nat) : (addTo F xs ys s k).length = xs.length := by
 induction k with
 | zero => rfl
 | succ k ih => rw [addTo, List.length_set, ih]
theorem addTo_nth (F : FD) (xs ys : List Int) (s : Int) (k : Nat) (hk : k ≤ xs.length) (i : Nat) : nth (addTo F xs ys s k) i = if i < k then F.add (nth xs i) (F.mul s (nth ys i)) else nth xs i := by
 induction k with
 | zero => rfl
 | succ k ih =>
  have ih := ih (by omega)
  rw [addTo]
  by_cases e : i = k
  · subst e
    rw [nth_set_same (by rw [addTo_len]; omega), if_pos (by omega)]
  · rw [nth_set_ne (by omega), ih]
    by_cases h : i < k
    · rw [if_pos h, if_pos (by omega)]
    · rw [if_neg h, if_neg (by omega)]
theorem grown_drew {w w' : World} {row : Option Nat} (h : w.grownBy w' row) : w.grownBy w'.drew row := ⟨h.os, h.tape, h.output, h.size, h.block⟩
theorem addTimes_any (F : FD) (tv : Value) (wt w : World) (B g1 c1 : Nat) (b : Option Addr) (d : Nat) (xs ys : List Int) (s : Int) (ok : F.Ok) (hT : Tabs wt F tv) (hbt : Below wt.heap.size wt w) (hBt : wt.heap.size ≤ B)
    (ho : Own w B (.slice (some ⟨g1, 0, none⟩) xs.length c1) xs) (hy : Rd w b ys) (hne : ∀ p, b = some p → p.block ≠ g1) (hl : ys.length = xs.length) (hs0 : 0 ≤ s) (hs1 : s < F.n) (hm : ∀ x ∈ xs, 0 ≤ x ∧ x < F.n) (hm2 : ∀ y ∈ ys, 0 ≤ y ∧ y < F.n) :
    Calls Try.prog 90 #[tv, .slice (some ⟨g1, 0, none⟩) xs.length c1, .slice b ys.length d, .int .i64 s] w fun e w' => e = .returned (.tuple #[]) ∧ Own w' B (.slice (some ⟨g1, 0, none⟩) xs.length c1) (addTo F xs ys s xs.length) ∧ w.grownBy w' (some g1) := by
 obtain ⟨aA, cA, aS, cS, aM, cM, aI, cI, rfl, tA, tS, tM, tI⟩ := hT
 obtain ⟨n2, n64⟩ := ok.n_bd
 have hxl := ho.1
 have hg1 := ho.lt g1 rfl
 have hcap := ho.cap
 unfold maxLen at hcap
 obtain ⟨hcap1, hcap2⟩ := hcap
 obtain ⟨W0, hW0⟩ : ∃ W0, W0 = w.alloc (.cells #[.int .i64 F.n, .slice aA F.n cA, .slice aS F.n cS, .slice aM F.n cM, .slice aI F.n cI] 93) := ⟨_, rfl⟩
 have kT : Blk W0 w.heap.size 93 #[.int .i64 F.n, .slice aA F.n cA, .slice aS F.n cS, .slice aM F.n cM, .slice aI F.n cI] := by rw [hW0]; exact Blk.new _ _ _ rfl
 have gr0 : w.grownBy W0 (some g1) := by rw [hW0]; exact World.grownBy_alloc _ _ _
 have ho0 : Own W0 B (.slice (some ⟨g1, 0, none⟩) xs.length c1) xs := by rw [hW0]; exact ho.alloc _
 obtain ⟨si, rfl⟩ := Int.eq_ofNat_of_zero_le hs0
 have HW := Lib.hid hW0
 have HO := Lib.hid ho0
 have HL := Lib.hid hl
 clear hW0 ho0 hl ho
 go_enter Try.func90, Try.ntmps90
 go_wp2_with fail
 rw [← HW.out, HL.out]
 go_loopw [12] (fun iv wr => ∃ (k : Nat), iv = .int .i64 k ∧ k ≤ xs.length ∧ Hid (Own wr B (.slice (some ⟨g1, 0, none⟩) xs.length c1) (addTo F xs ys si k)) ∧ Hid (w.grownBy wr (some g1)) ∧ Blk wr w.heap.size 93 #[.int .i64 F.n, .slice aA F.n cA, .slice aS F.n cS, .slice aM F.n cM, .slice aI F.n cI]) (fun iv _ => xs.length - (intOf iv).toNat)
 case atStart => exact ⟨0, rfl, Nat.zero_le _, HO.out, gr0, kT⟩
 case round =>
  obtain ⟨k, rfl, hk, ho, hgr, kR⟩ := hrel
  by_cases hkl : k < xs.length
  · have hky : k < ys.length := by rw [HL.out]; exact hkl
    have hbr : Below wt.heap.size wt wr := hbt.grown hgr.out (by have := hbt.size; omega) (fun j hj => by injection hj; omega)
    obtain ⟨gb, ob, rfl, hbb, hc2⟩ := (hy.grow hgr.out (fun p hp e => by injection e with e; exact hne p hp e)).at_ (by omega)
    have h2 := hc2 k hky
    have hlen := addTo_len F xs ys si k
    have h1 := ho.out.cell (j := k) (by rw [hlen]; exact hkl)
    have hf1 := ho.out.frozen k
    rw [addTo_nth F xs ys si k (by omega), if_neg (by omega)] at h1
    have hxr := hm _ (nth_mem hkl)
    have hyr := hm2 _ (nth_mem hky)
    obtain ⟨x, hx⟩ := Int.eq_ofNat_of_zero_le hxr.1
    obtain ⟨y, hy'⟩ := Int.eq_ofNat_of_zero_le hyr.1
    have hres : addTo F xs ys si (k + 1) = (addTo F xs ys si k).set k (F.add x (F.mul si y)) := by rw [addTo, hx, hy']
    rw [hx] at h1 hxr
    rw [hy'] at h2 hyr
    have hMb := mul_bd ok si y
    obtain ⟨m, hmm⟩ := Int.eq_ofNat_of_zero_le hMb.1
    obtain ⟨bM, oM, bm, om, cm, rfl, m1, m2⟩ := tab_at (tM.below hbr) (i := si) (j := y) (by omega) (by omega)
    obtain ⟨bA, oA, ba, oa, ca, rfl, a1, a2⟩ := tab_at (tA.below hbr) (i := x) (j := m) (by omega) (by omega)
    rw [hmm] at m2 hres hMb
    obtain ⟨D, hD⟩ : ∃ D, D = F.add x m := ⟨_, rfl⟩
    rw [← hD] at a2 hres
    have t1 : wr.cell? ⟨w.heap.size, 1, none⟩ = some (.slice (some ⟨bA, oA, none⟩) F.n cA) := kR.cell 1
    have t3 : wr.cell? ⟨w.heap.size, 3, none⟩ = some (.slice (some ⟨bM, oM, none⟩) F.n cM) := kR.cell 3
    have lx : x < F.n := by omega
    have ly : y < F.n := by omega
    have ls : si < F.n := by omega
    have lm : m < F.n := by omega
    have HRES := Lib.hid hres
    have KR := Lib.hid kR
    clear hres hD hmm hx hy' hc2 hlen kR hm hm2 tA tS tM tI hbt hne hy hxr hyr hMb hbr
    go_wp2_with fail
    go_region
    go_wp2
    go_roundw
    case rel =>
     have hs := ho.out.set k D
     refine ⟨k + 1, by go_num, by omega, ?_, grown_drew (grown_trans_row hgr.out hs.2), KR.out.far (by show w.heap.size ≠ g1; omega) _⟩
     show Own _ _ _ _
     rw [HRES.out]
     exact hs.1
    case measure => simp only [intOf]; omega
  · have hke : k = xs.length := by omega
    have HE := Lib.hid hke
    clear hke
    go_wp2
    go_end0
    exact ⟨rfl, by have o := ho.out; rw [HE.out] at o; exact o, hgr.out⟩
end Go.Proofs.Ytgmgpcaahanmiaa
namespace Go.Proofs.Ytgmgpcaahanmiaa
open Go.RowKit
def firstOfL (p : List Int → Bool) (xss : List (List Int)) : Int := match xss.findIdx? p with
 | some i => i
 | none => -1
theorem firstOfL_yes {p : List Int → Bool} {xss : List (List Int)} {k : Nat} (hk : k < xss.length) (hp : p (nthL xss k) = true) (h : ∀ j, j < k → p (nthL xss j) = false) : firstOfL p xss = k := by
 have : xss.findIdx? p = some k := by
  rw [List.findIdx?_eq_some_iff_getElem]
  refine ⟨hk, by rw [← nthL_lt hk]; exact hp, fun j hj => ?_⟩
  have := h j hj
  rw [nthL_lt (by omega)] at this
  rw [this]; simp
 rw [firstOfL, this]
theorem firstOfL_no {p : List Int → Bool} {xss : List (List Int)} (h : ∀ j, j < xss.length → p (nthL xss j) = false) : firstOfL p xss = -1 := by
 have : xss.findIdx? p = none := by
  rw [List.findIdx?_eq_none_iff]
  intro x hx
  obtain ⟨i, hi, rfl⟩ := List.getElem_of_mem hx
  have := h i hi
  rwa [nthL_lt hi] at this
 rw [firstOfL, this]
def notAt (c : Nat) (xs : List Int) : Bool := nth xs c != 0
theorem nthL_drop (xss : List (List Int)) (t j : Nat) : nthL (xss.drop t) j = nthL xss (t + j) := by simp [nthL]
theorem firstOfL_piv (rows : List (List Int)) (c t : Nat) (ht : t ≤ rows.length) :
    (firstOfL (notAt c) (rows.drop t) = -1 ∧ pivAt rows c t = rows.length ∧ ∀ j, t ≤ j → j < rows.length → nth (nthL rows j) c = 0) ∨
    ∃ i : Nat, firstOfL (notAt c) (rows.drop t) = i ∧ t + i < rows.length ∧ pivAt rows c t = t + i ∧ nth (nthL rows (t + i)) c ≠ 0 := by
 cases h : (rows.drop t).findIdx? (notAt c) with
 | none =>
  rw [List.findIdx?_eq_none_iff] at h
  have hz : ∀ j, t ≤ j → j < rows.length → nth (nthL rows j) c = 0 := by
   intro j h1 h2
   have h3 : j - t < (rows.drop t).length := by rw [List.length_drop]; omega
   have := h _ (nthL_mem h3)
   rw [nthL_drop, show t + (j - t) = j by omega] at this
   simpa [notAt] using this
  exact .inl ⟨by rw [firstOfL, List.findIdx?_eq_none_iff.2 h], pivAt_none hz, hz⟩
 | some i =>
  have h0 := h
  rw [List.findIdx?_eq_some_iff_getElem] at h
  obtain ⟨hi, hp, hj⟩ := h
  have hil : t + i < rows.length := by rw [List.length_drop] at hi; omega
  rw [← nthL_lt hi, nthL_drop] at hp
  have hne : nth (nthL rows (t + i)) c ≠ 0 := by simpa [notAt] using hp
  refine .inr ⟨i, by rw [firstOfL, h0], hil, pivAt_hit (by omega) hil hne fun j h1 h2 => ?_, hne⟩
  have h3 := hj (j - t) (by omega)
  have h4 : j - t < (rows.drop t).length := by rw [List.length_drop]; omega
  rw [← nthL_lt h4, nthL_drop, show t + (j - t) = j by omega] at h3
  simpa [notAt] using h3
theorem reduce1_any (c gq : Nat) (a : Option Addr) (cp : Nat) (xs : List Int) (w : World) (hx : Rd w a xs) (hc : c < xs.length) (hq : w.cell? ⟨gq, 0, none⟩ = some (.int .i64 c)) :
    Calls Try.prog 214 #[.slice a xs.length cp, .pointer (some ⟨gq, 0, none⟩)] w fun e w' => e = .returned (.bool (notAt c xs)) ∧ w = w' := by
 obtain ⟨b1, o1, rfl, _, hcc⟩ := hx.at_ (by omega)
 have h1 := hcc c hc
 have hxl := hx.len
 unfold notAt
 generalize nth xs c = x at h1
 clear hcc hx
 go_enter Try.func214, Try.ntmps214
 go_wp2
 go_ret
 exact ⟨rfl, rfl⟩
theorem idx_reduce (c gq n : Nat) (a : Option Addr) (cp : Nat) (xss : List (List Int)) (w : World) (hx : RdS w a xss) (hn : ∀ xs ∈ xss, xs.length = n) (hcn : c < n) (hq : w.cell? ⟨gq, 0, none⟩ = some (.int .i64 c)) :
    Calls Try.prog 139 #[.slice a xss.length cp, .func (.func 214) #[] #[.pointer (some ⟨gq, 0, none⟩)]] w fun e w' => e = .returned (.int .i64 (firstOfL (notAt c) xss)) ∧ w = w' := by
 have hxl := hx.len
 have hq0 := hq
 go_enter Try.func139, Try.ntmps139
 go_wp2_with fail
 go_loop [8] (fun i => ∃ k : Nat, i = .int .i64 k ∧ k ≤ xss.length ∧ Hid (∀ j, j < k → notAt c (nthL xss j) = false)) (fun i => xss.length - (intOf i).toNat)
 case atStart => exact ⟨0, rfl, Nat.zero_le _, fun j hj => by omega⟩
 case round =>
  obtain ⟨k, rfl, hk, hq⟩ := hrel
  by_cases hkl : k < xss.length
  · obtain ⟨b1, o1, rfl, _, hc⟩ := hx.at_ (by omega)
    obtain ⟨ai, ci, h1, hr1⟩ := hc k hkl
    have hln := hn _ (nthL_mem hkl)
    obtain ⟨r, hr⟩ : ∃ r, notAt c (nthL xss k) = r := ⟨_, rfl⟩
    have HR := Lib.hid hr
    have hcl := reduce1_any c gq ai ci (nthL xss k) w hr1 (by omega) hq0
    rw [hr, hln] at hcl
    rw [hln] at h1
    have HC := hide hcl
    clear hr hcl hc hx hr1 hln hn
    go_wp2_with fail
    refine (unhide HC).mono ?_
    rintro e w1 ⟨rfl, rfl⟩
    cases r
    · go_wp2
      go_round
      case rel =>
       refine ⟨k + 1, by go_num, by omega, fun j hj => ?_⟩
       rcases Nat.lt_succ_iff_lt_or_eq.1 hj with h | rfl
       · exact hq.out j h
       · exact HR.out
      case measure => simp [intOf]; omega
    · go_wp2
      go_ret
      exact ⟨ret_int (firstOfL_yes hkl HR.out hq.out).symm, rfl⟩
  · go_wp2
    go_ret
    exact ⟨ret_int (firstOfL_no (fun j hj => hq.out j (by omega))).symm, rfl⟩
end Go.Proofs.Ytgmgpcaahanmiaa
namespace Go.Proofs.Ytgmgpcaahanmiaa
open Go.RowKit
section
variable {F : FD}
theorem sub_zero' (ok : F.Ok) {a : Int} (ha : 0 ≤ a ∧ a < F.n) : F.sub a 0 = a := lin_zero (by have := ok.p2; omega) (-1) (by rw [ok.n_eq]; exact ha)
theorem zero_mul' (ok : F.Ok) (a : Int) : F.mul 0 a = 0 := zero_mulF (by have := ok.p2; omega) ok.len a
theorem add_neg_mul' (ok : F.Ok) (a c w : Int) : F.add a (F.mul (F.sub 0 c) w) = F.sub a (F.mul c w) := add_neg_mul (by have := ok.p2; omega) ok.len a c w
theorem addTo_less (ok : F.Ok) (xs ys : List Int) (x : Int) : addTo F xs ys (F.sub 0 x) xs.length = less F xs ys x := by
 refine eq_of_nth (by rw [addTo_len, less_len]) fun i hi => ?_
 rw [addTo_len] at hi
 rw [addTo_nth F xs ys _ _ (Nat.le_refl _), if_pos hi, less_nth F xs ys x hi, add_neg_mul' ok]
theorem less_zero (ok : F.Ok) {xs ys : List Int} (h : ∀ x ∈ xs, 0 ≤ x ∧ x < F.n) : less F xs ys 0 = xs := by
 refine eq_of_nth (less_len _ _ _ _) fun i hi => ?_
 rw [less_len] at hi
 rw [less_nth F xs ys 0 hi, zero_mul' ok, sub_zero' ok (h _ (nth_mem hi))]
def scaleTo (F : FD) (s : Int) (xs : List Int) : Nat → List Int
 | 0 => xs
 | k + 1 => (scaleTo F s xs k).set k (F.mul s (nth xs k))
theorem scaleTo_len (F : FD) (s : Int) (xs : List Int) (k : Nat) : (scaleTo F s xs k).length = xs.length := by
 induction k with
 | zero => rfl
 | succ k ih => rw [scaleTo, List.length_set, ih]
theorem scaleTo_nth (F : FD) (s : Int) (xs : List Int) (k : Nat) (hk : k ≤ xs.length) (i : Nat) : nth (scaleTo F s xs k) i = if i < k then F.mul s (nth xs i) else nth xs i := by
 induction k with
 | zero => rfl
 | succ k ih =>
  have ih := ih (by omega)
  rw [scaleTo]
  by_cases e : i = k
  · subst e
    rw [nth_set_same (by rw [scaleTo_len]; omega), if_pos (by omega)]
  · rw [nth_set_ne (by omega), ih]
    by_cases h : i < k
    · rw [if_pos h, if_pos (by omega)]
    · rw [if_neg h, if_neg (by omega)]
theorem scaleTo_all (F : FD) (s : Int) (xs : List Int) : scaleTo F s xs xs.length = scale F s xs := by
 refine eq_of_nth (by rw [scaleTo_len, scale_len]) fun i hi => ?_
 rw [scaleTo_len] at hi
 rw [scaleTo_nth F s xs _ (Nat.le_refl _), if_pos hi, scale_nth F s hi]
variable {c t : Nat} {rows : List (List Int)}
theorem elimTo_zero (ok : F.Ok) {n : Nat} (h : F.Mat n rows) {j : Nat} (hj : j < rows.length) (h0 : nth (nthL rows j) c = 0) : elimTo F c t rows (j + 1) = elimTo F c t rows j := by
 rw [elimTo]
 by_cases e : j = t
 · rw [if_pos e]
 · rw [if_neg e, h0, less_zero ok (Mat_nth h hj).2]
   refine eq_of_nthL (by rw [List.length_set]) fun i hi => ?_
   by_cases e2 : i = j
   · subst e2
     rw [nthL_set_same (by rw [elimTo_len]; exact hj), elimTo_nth i (by omega), if_neg (by omega)]
   · rw [nthL_set_ne (Ne.symm e2)]
theorem elimTo_step (ok : F.Ok) {j : Nat} (e : j ≠ t) : elimTo F c t rows (j + 1) = (elimTo F c t rows j).set j (addTo F (nthL rows j) (nthL rows t) (F.sub 0 (nth (nthL rows j) c)) (nthL rows j).length) := by
 rw [elimTo, if_neg e, addTo_less ok]
def swapped (rows : List (List Int)) (t i : Nat) : List (List Int) := (rows.set t (nthL rows i)).set i (nthL rows t)
theorem swapped_len (rows : List (List Int)) (t i : Nat) : (swapped rows t i).length = rows.length := by simp [swapped]
theorem swapped_self {t : Nat} (ht : t < rows.length) : swapped rows t t = rows := by
 refine eq_of_nthL (swapped_len _ _ _) fun i hi => ?_
 rw [swapped_len] at hi
 unfold swapped
 by_cases e : i = t
 · subst e
   rw [nthL_set_same (by rw [List.length_set]; exact hi)]
 · rw [nthL_set_ne (Ne.symm e), nthL_set_ne (Ne.symm e)]
theorem swapped_top {i : Nat} (ht : t < rows.length) (hi : i < rows.length) : nthL (swapped rows t i) t = nthL rows i := by
 unfold swapped
 by_cases e : t = i
 · subst e
   rw [nthL_set_same (by rw [List.length_set]; exact hi)]
 · rw [nthL_set_ne (Ne.symm e), nthL_set_same ht]
theorem swapped_Mat {n : Nat} (h : F.Mat n rows) {i : Nat} (ht : t < rows.length) (hi : i < rows.length) : F.Mat n (swapped rows t i) := by
 refine Mat_of fun j hj => ?_
 rw [swapped_len] at hj
 unfold swapped
 by_cases e : j = i
 · subst e
   rw [nthL_set_same (by rw [List.length_set]; exact hi)]
   exact Mat_nth h ht
 · rw [nthL_set_ne (Ne.symm e)]
   by_cases e2 : j = t
   · subst e2
     rw [nthL_set_same ht]
     exact Mat_nth h hi
   · rw [nthL_set_ne (Ne.symm e2)]
     exact Mat_nth h hj
theorem swapped_topped {i : Nat} (ht : t < rows.length) (hi : i < rows.length) : (swapped rows t i).set t (scale F (F.inv (nth (nthL rows i) c)) (nthL rows i)) = topped F c t rows i := by
 refine eq_of_nthL (by rw [List.length_set, swapped_len, topped_len]) fun j hj => ?_
 rw [List.length_set, swapped_len] at hj
 unfold topped
 by_cases e : j = t
 · subst e
   rw [nthL_set_same (by rw [swapped_len]; exact hj), nthL_set_same (by rw [List.length_set]; exact hj)]
 · rw [nthL_set_ne (Ne.symm e), nthL_set_ne (Ne.symm e)]
   unfold swapped
   by_cases e2 : j = i
   · subst e2
     rw [nthL_set_same (by rw [List.length_set]; exact hj), nthL_set_same hj]
   · rw [nthL_set_ne (Ne.symm e2), nthL_set_ne (Ne.symm e), nthL_set_ne (Ne.symm e2)]
theorem topped_top (F : FD) (c : Nat) {i : Nat} (ht : t < rows.length) : nthL (topped F c t rows i) t = scale F (F.inv (nth (nthL rows i) c)) (nthL rows i) := by
 unfold topped
 rw [nthL_set_same (by rw [List.length_set]; exact ht)]
theorem red_skip {xss : List (List Int)} {k : Nat} {piv : List Int} (h : red F xss k = (rows, piv)) (hz : pivAt rows k piv.length = rows.length) : red F xss (k + 1) = (rows, piv) := by
 rw [red, h, stepR, if_neg]
 rintro ⟨_, h2⟩
 rw [show ((rows, piv) : List (List Int) × List Int).1 = rows from rfl, show ((rows, piv) : List (List Int) × List Int).2 = piv from rfl, hz] at h2
 exact Nat.lt_irrefl _ h2
theorem red_go {xss : List (List Int)} {k i : Nat} {piv : List Int} (h : red F xss k = (rows, piv)) (ht : piv.length < rows.length) (hp : pivAt rows k piv.length = i) (hi : i < rows.length) :
    red F xss (k + 1) = (elimTo F k piv.length (topped F k piv.length rows i) rows.length, piv ++ [(k : Int)]) := by
 rw [red, h, stepR]
 show (if piv.length < rows.length ∧ pivAt rows k piv.length < rows.length then (redOne F k piv.length rows (pivAt rows k piv.length), piv ++ [(k : Int)]) else (rows, piv)) = _
 rw [hp, if_pos ⟨ht, hi⟩, redOne]
end
end Go.Proofs.Ytgmgpcaahanmiaa
namespace Go.Proofs.Ytgmgpcaahanmiaa
open Go.RowKit
def encTo (F : FD) (n : Nat) (rows : List (List Int)) (msg : List Int) : Nat → List Int
 | 0 => zeros n
 | k + 1 => addTo F (encTo F n rows msg k) (nthL rows k) (nth msg k) n
theorem encTo_len (F : FD) (n : Nat) (rows : List (List Int)) (msg : List Int) (k : Nat) : (encTo F n rows msg k).length = n := by
 induction k with
 | zero => exact zeros_len n
 | succ k ih => rw [encTo, addTo_len, ih]
theorem addTo_bd {F : FD} (ok : F.Ok) {xs ys : List Int} (s : Int) {k : Nat} (hk : k ≤ xs.length) (h : ∀ x ∈ xs, 0 ≤ x ∧ x < F.n) : ∀ x ∈ addTo F xs ys s k, 0 ≤ x ∧ x < F.n := by
 intro x hx
 obtain ⟨i, hi, rfl⟩ := List.getElem_of_mem hx
 rw [← nth_lt hi, addTo_nth F xs ys s k hk]
 rw [addTo_len] at hi
 split
 · exact add_bd ok _ _
 · exact h _ (nth_mem hi)
theorem encTo_el {F : FD} (ok : F.Ok) (n : Nat) (rows : List (List Int)) (msg : List Int) (k : Nat) : ∀ x ∈ encTo F n rows msg k, 0 ≤ x ∧ x < F.n := by
 induction k with
 | zero =>
  intro x hx
  rw [encTo, zeros, List.mem_replicate] at hx
  have := ok.n_bd
  omega
 | succ k ih => exact addTo_bd ok _ (by rw [encTo_len]; exact Nat.le_refl _) ih
def hig (j q k : Nat) : List Int := (dig j q k).reverse
theorem hig_len (j q k : Nat) : (hig j q k).length = k := by rw [hig, List.length_reverse, dig_len]
theorem hig_succ (j x : Nat) {q : Nat} (hx : x < q) (k : Nat) : hig (j * q + x) q (k + 1) = hig j q k ++ [(x : Int)] := by
 have hq : (0 : Int) < q := by omega
 rw [hig, dig_cons _ _ hq, List.reverse_cons, hig]
 have e1 : ((j * q + x : Nat) : Int) % (q : Int) = x := by
  rw [← Int.natCast_emod]
  congr 1
  rw [Nat.add_comm, Nat.add_mul_mod_self_right, Nat.mod_eq_of_lt hx]
 have e2 : ((j * q + x : Nat) : Int) / (q : Int) = j := by
  rw [← Int.natCast_ediv]
  congr 1
  rw [Nat.add_comm, Nat.add_mul_div_right _ _ (by omega), Nat.div_eq_of_lt hx, Nat.zero_add]
 rw [e1, e2]
theorem hig_el (j : Nat) {q : Nat} (hq : 0 < q) (k : Nat) : ∀ c ∈ hig j q k, 0 ≤ c ∧ c < q := fun c hc => dig_range (by omega) k c (List.mem_reverse.1 hc)
def wordsTo (F : FD) (n : Nat) (rows : List (List Int)) (k : Nat) : List (List Int) := (List.range (F.n ^ k)).map fun j => encTo F n rows (hig j F.n k) k
theorem wordsTo_len (F : FD) (n : Nat) (rows : List (List Int)) (k : Nat) : (wordsTo F n rows k).length = F.n ^ k := by simp [wordsTo]
theorem wordsTo_nth (F : FD) (n : Nat) (rows : List (List Int)) {k j : Nat} (hj : j < F.n ^ k) : nthL (wordsTo F n rows k) j = encTo F n rows (hig j F.n k) k := by simp [wordsTo, nthL, hj]
end Go.Proofs.Ytgmgpcaahanmiaa
namespace Go.Proofs.Ytgmgpcaahanmiaa
open Go.RowKit
def lead : List Int → Int
 | [] => 0
 | x :: xs => if x = 0 then lead xs else x
theorem hig_zero (q k : Nat) : hig 0 q k = zeros k := by
 rw [hig, show ((0 : Nat) : Int) = 0 from rfl, dig_zero, List.reverse_replicate, zeros]
end Go.Proofs.Ytgmgpcaahanmiaa
namespace Go.Proofs.Ytgmgpcaahanmiaa
open Go.RowKit
section
variable {F : FD}
def FD.sum (F : FD) (f : Nat → Int) : Nat → Int
 | 0 => 0
 | k + 1 => F.add (F.sum f k) (f k)
theorem sum_el (ok : F.Ok) (f : Nat → Int) (k : Nat) : F.el (F.sum f k) := by
 cases k with
 | zero => exact zero_el ok
 | succ k => exact lin_el ok _ _ _
theorem sum_congr {f g : Nat → Int} {k : Nat} (h : ∀ j, j < k → f j = g j) : F.sum f k = F.sum g k := by
 induction k with
 | zero => rfl
 | succ k ih => rw [FD.sum, FD.sum, ih (fun j hj => h j (by omega)), h k (by omega)]
theorem add4 (ok : F.Ok) (a b c d : Int) : F.add (F.add a b) (F.add c d) = F.add (F.add a c) (F.add b d) := by
 rw [add_assoc' ok, add_assoc' ok, ← add_assoc' ok b c d, ← add_assoc' ok c b d, add_comm' ok b c]
theorem sum_add (ok : F.Ok) (f g : Nat → Int) (k : Nat) : F.sum (fun j => F.add (f j) (g j)) k = F.add (F.sum f k) (F.sum g k) := by
 induction k with
 | zero => rw [FD.sum, FD.sum, FD.sum, add_zero' ok (zero_el ok)]
 | succ k ih => rw [FD.sum, FD.sum, FD.sum, ih, add4 ok]
theorem sum_zero (ok : F.Ok) {f : Nat → Int} {k : Nat} (h : ∀ j, j < k → f j = 0) : F.sum f k = 0 := by
 induction k with
 | zero => rfl
 | succ k ih => rw [FD.sum, ih (fun j hj => h j (by omega)), h k (by omega), add_zero' ok (zero_el ok)]
theorem sum_one (ok : F.Ok) {f : Nat → Int} {k l : Nat} (hl : l < k) (he : F.el (f l)) (h : ∀ j, j < k → j ≠ l → f j = 0) : F.sum f k = f l := by
 induction k with
 | zero => omega
 | succ k ih =>
  rw [FD.sum]
  by_cases e : l = k
  · subst e
    rw [sum_zero ok (fun j hj => h j (by omega) (by omega)), zero_add' ok he]
  · rw [ih (by omega) (fun j hj hne => h j (by omega) hne), h k (by omega) (fun e2 => e e2.symm), add_zero' ok he]
theorem mul_sum (ok : F.Ok) (c : Int) (f : Nat → Int) (k : Nat) : F.mul c (F.sum f k) = F.sum (fun j => F.mul c (f j)) k := by
 induction k with
 | zero => exact mul_zero_all ok c
 | succ k ih => rw [FD.sum, FD.sum, mul_add' ok, ih]
inductive Sp (F : FD) (rows : List (List Int)) : (Nat → Int) → Prop
 | zero : Sp F rows (fun _ => 0)
 | step {v : Nat → Int} {j : Nat} {c : Int} (h : Sp F rows v) (hj : j < rows.length) (hc : F.el c) : Sp F rows (fun i => F.add (v i) (F.mul c (nth (nthL rows j) i)))
variable {rows A B : List (List Int)}
theorem Sp.el (ok : F.Ok) {v : Nat → Int} (h : Sp F rows v) (i : Nat) : F.el (v i) := by
 cases h with
 | zero => exact zero_el ok
 | step => exact lin_el ok _ _ _
theorem Sp.add (ok : F.Ok) {u v : Nat → Int} (hu : Sp F rows u) (hv : Sp F rows v) : Sp F rows (fun i => F.add (u i) (v i)) := by
 induction hv with
 | zero =>
  have e : (fun i => F.add (u i) 0) = u := by funext i; rw [add_zero' ok (hu.el ok i)]
  rw [e]; exact hu
 | @step v j c h hj hc ih =>
  have e : (fun i => F.add (u i) (F.add (v i) (F.mul c (nth (nthL rows j) i)))) = fun i => F.add (F.add (u i) (v i)) (F.mul c (nth (nthL rows j) i)) := by funext i; rw [add_assoc' ok]
  rw [e]; exact ih.step hj hc
theorem Sp.mul (ok : F.Ok) {v : Nat → Int} (hv : Sp F rows v) {a : Int} : Sp F rows (fun i => F.mul a (v i)) := by
 induction hv with
 | zero =>
  have e : (fun _ : Nat => F.mul a 0) = fun _ => 0 := by funext i; rw [mul_zero_all ok]
  rw [e]; exact .zero
 | @step v j c h hj hc ih =>
  have e : (fun i => F.mul a (F.add (v i) (F.mul c (nth (nthL rows j) i)))) = fun i => F.add (F.mul a (v i)) (F.mul (F.mul a c) (nth (nthL rows j) i)) := by funext i; rw [mul_add' ok, mul_assoc_all ok]
  rw [e]; exact ih.step hj (mul_el ok _ _)
theorem one_el (ok : F.Ok) : F.el 1 := (el_n ok).2 (by have := ok.n_bd; omega)
theorem nth_el {n : Nat} (ok : F.Ok) (hM : F.Mat n rows) {j : Nat} (hj : j < rows.length) (i : Nat) : F.el (nth (nthL rows j) i) := by
 rcases Nat.lt_or_ge i (nthL rows j).length with h | h
 · exact (el_n ok).2 ((Mat_nth hM hj).2 _ (nth_mem h))
 · rw [nth_big h]; exact zero_el ok
theorem Sp.row {n : Nat} (ok : F.Ok) (hM : F.Mat n rows) {j : Nat} (hj : j < rows.length) : Sp F rows (nth (nthL rows j)) := by
 have h := Sp.zero (F := F) (rows := rows) |>.step hj (one_el ok)
 have e : (fun i => F.add 0 (F.mul 1 (nth (nthL rows j) i))) = nth (nthL rows j) := by
  funext i
  have := nth_el ok hM hj i
  rw [one_mul' ok this, zero_add' ok this]
 rw [e] at h; exact h
theorem Sp.of (ok : F.Ok) (h : ∀ j, j < B.length → Sp F A (nth (nthL B j))) {v : Nat → Int} (hv : Sp F B v) : Sp F A v := by
 induction hv with
 | zero => exact .zero
 | @step v j c hs hj hc ih => exact ih.add ok ((h j hj).mul ok)
theorem Sp.sub (ok : F.Ok) {u v : Nat → Int} (hu : Sp F rows u) (hv : Sp F rows v) (c : Int) : Sp F rows (fun i => F.sub (u i) (F.mul c (v i))) := by
 have h := hu.add ok (hv.mul ok (a := F.sub 0 c))
 have e : (fun i => F.add (u i) (F.mul (F.sub 0 c) (v i))) = fun i => F.sub (u i) (F.mul c (v i)) := by
  funext i
  exact add_neg_mul (by have := ok.p2; omega) ok.len (u i) c (v i)
 rw [e] at h; exact h
theorem Sp.big {n : Nat} (ok : F.Ok) (hM : F.Mat n rows) {v : Nat → Int} (h : Sp F rows v) {i : Nat} (hi : n ≤ i) : v i = 0 := by
 induction h with
 | zero => rfl
 | @step v j c h hj hc ih =>
  show F.add (v i) (F.mul c (nth (nthL rows j) i)) = 0
  rw [ih, nth_big (by rw [(Mat_nth hM hj).1]; exact hi), mul_zero_all ok, add_zero' ok (zero_el ok)]
structure Ech (F : FD) (n : Nat) (rows : List (List Int)) (piv : List Nat) : Prop where
 mat : F.Mat n rows
 len : piv.length = rows.length
 lt : ∀ j, j < piv.length → piv.getD j 0 < n
 mono : ∀ i j, i < j → j < piv.length → piv.getD i 0 < piv.getD j 0
 one : ∀ i j, i < piv.length → j < piv.length → nth (nthL rows i) (piv.getD j 0) = if i = j then 1 else 0
 lead : ∀ j i, j < piv.length → i < piv.getD j 0 → nth (nthL rows j) i = 0
variable {n : Nat} {piv : List Nat}
theorem Ech.coord (ok : F.Ok) (h : Ech F n rows piv) {v : Nat → Int} (hv : Sp F rows v) (i : Nat) : v i = F.sum (fun j => F.mul (v (piv.getD j 0)) (nth (nthL rows j) i)) rows.length := by
 induction hv with
 | zero => exact (sum_zero ok fun j _ => zero_mul_all ok _).symm
 | @step v l c hs hl hc ih =>
  rw [show (fun j => F.mul (F.add (v (piv.getD j 0)) (F.mul c (nth (nthL rows l) (piv.getD j 0)))) (nth (nthL rows j) i)) = fun j => F.add (F.mul (v (piv.getD j 0)) (nth (nthL rows j) i)) (F.mul (F.mul c (nth (nthL rows l) (piv.getD j 0))) (nth (nthL rows j) i)) by funext j; rw [add_mul' ok]]
  rw [sum_add ok, ← ih]
  congr 1
  have hl' : l < piv.length := by rw [h.len]; exact hl
  rw [sum_one ok (l := l) hl (mul_el ok _ _) (fun j hj hne => by rw [h.one l j hl' (by rw [h.len]; exact hj), if_neg (Ne.symm hne), mul_zero_all ok, zero_mul_all ok])]
  rw [h.one l l hl' hl', if_pos rfl, mul_comm' ok c 1, one_mul' ok hc]
theorem Ech.zero_of (ok : F.Ok) (h : Ech F n rows piv) {v : Nat → Int} (hv : Sp F rows v) (h0 : ∀ j, j < piv.length → v (piv.getD j 0) = 0) (i : Nat) : v i = 0 := by
 rw [h.coord ok hv i]
 exact sum_zero ok fun j hj => by rw [h0 j (by rw [h.len]; exact hj), zero_mul_all ok]
theorem Ech.lead_piv (ok : F.Ok) (h : Ech F n rows piv) {v : Nat → Int} (hv : Sp F rows v) {l : Nat} (h1 : v l ≠ 0) (h2 : ∀ i, i < l → v i = 0) : l ∈ piv := by
 rcases Classical.em (l ∈ piv) with hm | hm
 · exact hm
 · exfalso
   apply h1
   rw [h.coord ok hv l]
   refine sum_zero ok fun j hj => ?_
   have hj' : j < piv.length := by rw [h.len]; exact hj
   rcases Nat.lt_trichotomy (piv.getD j 0) l with hlt | heq | hgt
   · rw [h2 _ hlt, zero_mul_all ok]
   · exact absurd (by rw [← heq, List.getD_eq_getElem?_getD, List.getElem?_eq_getElem hj']; exact List.getElem_mem hj') hm
   · rw [h.lead j l hj' hgt, mul_zero_all ok]
theorem sorted_ext {p q : List Nat} (hp : ∀ i j, i < j → j < p.length → p.getD i 0 < p.getD j 0) (hq : ∀ i j, i < j → j < q.length → q.getD i 0 < q.getD j 0) (h : ∀ x, x ∈ p ↔ x ∈ q) : p = q := by
 have pw : ∀ {p : List Nat}, (∀ i j, i < j → j < p.length → p.getD i 0 < p.getD j 0) → p.Pairwise (· < ·) := fun {p} hp => by
  rw [List.pairwise_iff_getElem]
  intro i j hi hj hij
  have := hp i j hij hj
  rwa [List.getD_eq_getElem?_getD, List.getElem?_eq_getElem hi, List.getD_eq_getElem?_getD, List.getElem?_eq_getElem hj] at this
 exact List.Perm.eq_of_pairwise (le := (· < ·)) (fun a b _ _ h1 h2 => absurd h1 (Nat.lt_asymm h2)) (pw hp) (pw hq) ((List.perm_ext_iff_of_nodup ((pw hp).imp Nat.ne_of_lt) ((pw hq).imp Nat.ne_of_lt)).2 h)
end
end Go.Proofs.Ytgmgpcaahanmiaa
namespace Go.Proofs.Ytgmgpcaahanmiaa
open Go.RowKit
theorem hig_cons {q : Nat} (hq : 0 < q) : ∀ (k : Nat) {x t : Nat}, x < q → t < q ^ k → hig (x * q ^ k + t) q (k + 1) = (x : Int) :: hig t q k := by
 intro k
 induction k with
 | zero =>
  intro x t hx ht
  have h0 : t = 0 := by simpa using ht
  subst h0
  have h := hig_succ 0 x hx 0
  rw [Nat.zero_mul, Nat.zero_add] at h
  rw [Nat.pow_zero, Nat.mul_one, Nat.add_zero, h]
  rfl
 | succ k ih =>
  intro x t hx ht
  have dt : t / q < q ^ k := Nat.div_lt_of_lt_mul (by rw [Nat.mul_comm]; exact ht)
  have rt := Nat.mod_lt t hq
  have et : t = t / q * q + t % q := by rw [Nat.mul_comm]; exact (Nat.div_add_mod t q).symm
  have e : x * q ^ (k + 1) + t = (x * q ^ k + t / q) * q + t % q := by
   have e3 : x * q ^ (k + 1) = x * q ^ k * q := by rw [Nat.pow_succ, Nat.mul_assoc]
   rw [e3, Nat.add_mul]
   omega
  have e2 := hig_succ (t / q) (t % q) rt k
  rw [← et] at e2
  rw [e, hig_succ _ _ rt, ih hx dt, e2]
  rfl
section
variable {F : FD}
def lf (F : FD) : List Int → List Int → Int
 | a :: es, v :: vs => F.add (F.mul a v) (lf F es vs)
 | _, _ => 0
theorem lf_el (ok : F.Ok) : ∀ a v : List Int, F.el (lf F a v)
 | _ :: _, _ :: _ => lin_el ok _ _ _
 | [], _ => zero_el ok
 | _ :: _, [] => zero_el ok
theorem sum_head (ok : F.Ok) (g : Nat → Int) (h0 : F.el (g 0)) (k : Nat) : F.sum g (k + 1) = F.add (g 0) (F.sum (fun j => g (j + 1)) k) := by
 induction k with
 | zero =>
  show F.add (F.sum g 0) (g 0) = F.add (g 0) 0
  rw [FD.sum, zero_add' ok h0, add_zero' ok h0]
 | succ k ih =>
  rw [FD.sum, ih, FD.sum, add_assoc' ok]
theorem lf_sum (ok : F.Ok) : ∀ (k : Nat) {a v : List Int}, a.length = k → v.length = k → lf F a v = F.sum (fun j => F.mul (nth a j) (nth v j)) k
 | 0, a, v, ha, hv => by
  rw [List.length_eq_zero_iff.1 ha, List.length_eq_zero_iff.1 hv]
  rfl
 | k + 1, a :: es, v :: vs, ha, hv => by
  rw [sum_head ok _ (mul_el ok _ _)]
  show F.add (F.mul a v) (lf F es vs) = _
  rw [lf_sum ok k (by simpa using ha) (by simpa using hv)]
  rfl
 | _ + 1, [], _, ha, _ => by simp at ha
 | _ + 1, _ :: _, [], _, hv => by simp at hv
theorem add_eq (ok : F.Ok) {a y b : Int} (hy : F.el y) (hb : F.el b) : F.add a y = b ↔ y = F.sub b a := by
 have h1 : ∀ y : Int, F.el y → F.sub (F.add a y) a = y := fun y hy => lin_eq ok (lin_el ok _ _ _) hy (f := fun i => F.D y i) (g := fun i => F.D y i)
  (fun i hi => by
   refine (D_lin2 ok hi (D_lin ok _ _ _ hi) (Cg.refl _ _)).trans ?_
   have e : F.D a i + 1 * F.D y i + -1 * F.D a i = F.D y i := by omega
   rw [e]; exact Cg.refl _ _) (fun i hi => Cg.refl _ _) fun i => rfl
 have h2 : F.add a (F.sub b a) = b := lin_eq ok (lin_el ok _ _ _) hb (f := fun i => F.D b i) (g := fun i => F.D b i)
  (fun i hi => by
   refine (D_lin2 ok hi (Cg.refl _ _) (D_lin ok _ _ _ hi)).trans ?_
   have e : F.D a i + 1 * (F.D b i + -1 * F.D a i) = F.D b i := by omega
   rw [e]; exact Cg.refl _ _) (fun i hi => Cg.refl _ _) fun i => rfl
 exact ⟨fun e => by rw [← e, h1 y hy], fun e => by rw [e, h2]⟩
theorem div_one (hG : F.Good) {a b : Int} (ha : 1 ≤ a) (ha2 : a < F.n) (hb : F.el b) : ∃ x0 : Nat, x0 < F.n ∧ ∀ x : Nat, x < F.n → (F.mul a x = b ↔ x = x0) := by
 have ok := hG.ok
 obtain ⟨i1, i2, i3, _⟩ := inv_spec hG ha ha2
 have hae : F.el a := (el_n ok).2 ⟨by omega, ha2⟩
 have hx0 := (el_n ok).1 (mul_el ok (F.inv a) b)
 obtain ⟨x0, hx⟩ := Int.eq_ofNat_of_zero_le hx0.1
 refine ⟨x0, by omega, fun x hxn => ⟨fun e => ?_, fun e => ?_⟩⟩
 · have : F.mul (F.inv a) b = x := by rw [← e, ← mul_assoc_all ok, mul_comm' ok (F.inv a) a, i1, one_mul' ok ((el_n ok).2 ⟨by omega, by omega⟩)]
   rw [hx] at this
   exact (Int.ofNat_inj.1 this).symm
 · rw [e, ← hx, ← mul_assoc_all ok, i1, one_mul' ok hb]
end
end Go.Proofs.Ytgmgpcaahanmiaa
namespace Go.Proofs.Ytgmgpcaahanmiaa
open Go.RowKit
theorem ch_bin {n : Nat} (hn : n ≤ 32) (k : Nat) : chooseV n k = (bin n k : Int) := by
 rcases Nat.lt_or_ge n k with h | h
 · rw [chooseV_big h, bin_big h]; rfl
 · exact chooseV_bin hn h
def kq (q : Int) (i m j s : Nat) : Int := sgn s * ((bin i s : Int) * (bin m (j - s) : Int)) * (q - 1) ^ (j - s)
def kS (q : Int) (i m j : Nat) : Int := sumTo (kq q i m j) (j + 1)
theorem kR_kS {q : Int} {n i : Nat} (hn : n ≤ 32) (hi : i ≤ n) (j : Nat) : kR q n i j = kS q i (n - i) j := by
 have key : ∀ S, kTo q n i j S = sumTo (kq q i (n - i) j) S := by
  intro S
  induction S with
  | zero => rfl
  | succ S ih =>
   rw [kTo_sgn, ih, sumTo, kq, kX, kY, ch_bin (by omega), ch_bin (by omega)]
 exact key (j + 1)
theorem sgn_sgn (s : Nat) : sgn (s + 1) = -sgn s := sgn_succ s
theorem kS_zero (q : Int) (i m : Nat) : kS q i m 0 = 1 := by
 show 0 + kq q i m 0 0 = 1
 rw [kq, bin_zero, Nat.sub_self, bin_zero]
 simp [sgn]
theorem kS_out (q : Int) (i m j : Nat) : kS q i (m + 1) (j + 1) = kS q i m (j + 1) + (q - 1) * kS q i m j := by
 have h1 : ∀ s, s < j + 1 → kq q i (m + 1) (j + 1) s = kq q i m (j + 1) s + (q - 1) * kq q i m j s := fun s hs => by
  rw [kq, kq, kq, show j + 1 - s = (j - s) + 1 by omega, bin_succ, Int.natCast_add, Int.pow_succ]
  generalize (bin m (j - s) : Int) = a
  generalize (bin m (j - s + 1) : Int) = b
  generalize (bin i s : Int) = c
  generalize (q - 1) ^ (j - s) = d
  generalize sgn s = e
  rw [Int.mul_add, Int.mul_add, Int.add_mul, Int.add_comm (e * (c * a) * (d * (q - 1)))]
  congr 1
  rw [← Int.mul_assoc (e * (c * a)), Int.mul_comm]
 have h2 : kq q i (m + 1) (j + 1) (j + 1) = kq q i m (j + 1) (j + 1) := by
  rw [kq, kq, Nat.sub_self, bin_zero, bin_zero]
 show sumTo (kq q i (m + 1) (j + 1)) (j + 1) + kq q i (m + 1) (j + 1) (j + 1) = (sumTo (kq q i m (j + 1)) (j + 1) + kq q i m (j + 1) (j + 1)) + (q - 1) * sumTo (kq q i m j) (j + 1)
 rw [sumTo_congr h1, sumTo_add, sumTo_mul, h2]
 omega
theorem kS_in (q : Int) (i m j : Nat) : kS q (i + 1) m (j + 1) = kS q i m (j + 1) - kS q i m j := by
 rw [kS, kS, kS, sumTo_shift, sumTo_shift (kq q i m (j + 1))]
 have h0 : kq q (i + 1) m (j + 1) 0 = kq q i m (j + 1) 0 := by rw [kq, kq, bin_zero, bin_zero]
 have h1 : ∀ s, s < j + 1 → kq q (i + 1) m (j + 1) (s + 1) = kq q i m (j + 1) (s + 1) + (-1) * kq q i m j s := fun s hs => by
  rw [kq, kq, kq, show j + 1 - (s + 1) = j - s by omega, bin_succ, Int.natCast_add, sgn_sgn]
  generalize (bin m (j - s) : Int) = a
  generalize (bin i (s + 1) : Int) = b
  generalize (bin i s : Int) = c
  generalize (q - 1) ^ (j - s) = d
  generalize sgn s = e
  rw [Int.add_mul, Int.mul_add, Int.add_mul, Int.add_comm]
  congr 1
  rw [Int.neg_mul, Int.neg_mul, Int.neg_mul, Int.one_mul]
 rw [h0, sumTo_congr h1, sumTo_add, sumTo_mul]
 omega
def smv (q : Nat) : Nat → (List Int → Int) → Int
 | 0, g => g []
 | k + 1, g => sumTo (fun x => smv q k fun v => g ((x : Int) :: v)) q
theorem smv_congr {q : Nat} : ∀ (k : Nat) {g h : List Int → Int}, (∀ v, v.length = k → (∀ x ∈ v, 0 ≤ x ∧ x < (q : Int)) → g v = h v) → smv q k g = smv q k h
 | 0, g, h, e => e [] rfl (by simp)
 | k + 1, g, h, e => sumTo_congr fun x hx => smv_congr k fun v hv hb => e _ (by rw [List.length_cons, hv]) fun y hy => by
  rcases List.mem_cons.1 hy with h1 | h1
  · rw [h1]; omega
  · exact hb y h1
theorem smv_add {q : Nat} : ∀ (k : Nat) (g h : List Int → Int), smv q k (fun v => g v + h v) = smv q k g + smv q k h
 | 0, _, _ => rfl
 | k + 1, g, h => by
  show sumTo (fun x => smv q k fun v => g ((x : Int) :: v) + h ((x : Int) :: v)) q = _
  rw [sumTo_congr fun x _ => smv_add k (fun v => g ((x : Int) :: v)) fun v => h ((x : Int) :: v), sumTo_add]
  rfl
theorem smv_mul {q : Nat} (c : Int) : ∀ (k : Nat) (g : List Int → Int), smv q k (fun v => c * g v) = c * smv q k g
 | 0, _ => rfl
 | k + 1, g => by
  show sumTo (fun x => smv q k fun v => c * g ((x : Int) :: v)) q = _
  rw [sumTo_congr fun x _ => smv_mul c k fun v => g ((x : Int) :: v), sumTo_mul]
  rfl
theorem smv_zero {q : Nat} (k : Nat) : smv q k (fun _ => 0) = 0 := by
 have h := smv_mul (q := q) 0 k (fun _ => 0)
 have e : smv q k (fun _ => (0 : Int)) = smv q k (fun v => 0 * (fun _ : List Int => (0 : Int)) v) := smv_congr k fun _ _ _ => by simp
 rw [e, h, Int.zero_mul]
theorem sumTo_one {f : Nat → Int} {n x0 : Nat} (A B : Int) (hx : x0 < n) (h0 : f x0 = A) (h1 : ∀ x, x < n → x ≠ x0 → f x = B) : sumTo f n = A + ((n : Int) - 1) * B := by
 have key : ∀ n, (∀ x, x < n → x ≠ x0 → f x = B) → sumTo f n = if x0 < n then A + ((n : Int) - 1) * B else (n : Int) * B := by
  intro n
  induction n with
  | zero => intro _; rw [if_neg (by omega)]; show (0 : Int) = 0 * B; rw [Int.zero_mul]
  | succ n ih =>
   intro h
   rw [sumTo, ih fun x hx => h x (by omega)]
   by_cases e : x0 = n
   · subst e
     rw [if_neg (by omega), if_pos (by omega), h0, show ((x0 + 1 : Nat) : Int) - 1 = x0 by omega]
     omega
   · by_cases h2 : x0 < n
     · rw [if_pos h2, if_pos (by omega), h n (by omega) (fun e2 => e e2.symm), show ((n + 1 : Nat) : Int) - 1 = ((n : Int) - 1) + 1 by omega, Int.add_mul ((n : Int) - 1), Int.one_mul]
       omega
     · rw [if_neg h2, if_neg (by omega), h n (by omega) (fun e2 => e e2.symm), show ((n + 1 : Nat) : Int) = (n : Int) + 1 by omega, Int.add_mul, Int.one_mul]
 rw [key n h1, if_pos hx]
theorem sumTo_const (B : Int) (n : Nat) : sumTo (fun _ => B) n = (n : Int) * B := by
 induction n with
 | zero => show (0 : Int) = 0 * B; rw [Int.zero_mul]
 | succ n ih => rw [sumTo, ih, show ((n + 1 : Nat) : Int) = (n : Int) + 1 by omega, Int.add_mul, Int.one_mul]
section
variable {F : FD}
def phi (F : FD) (a : Int) : Int := if a = 0 then (F.n : Int) - 1 else -1
theorem phi_sum (hG : F.Good) {a b : Int} (ha : 1 ≤ a) (ha2 : a < F.n) (hb : F.el b) : sumTo (fun x => phi F (F.add b (F.mul a (x : Int)))) F.n = 0 := by
 have ok := hG.ok
 obtain ⟨n2, _⟩ := ok.n_bd
 obtain ⟨x0, hx0, hx⟩ := div_one hG ha ha2 (b := F.sub 0 b) (lin_el ok _ _ _)
 have hiff : ∀ x : Nat, x < F.n → (F.add b (F.mul a x) = 0 ↔ x = x0) := fun x hxn => by
  rw [add_eq ok (mul_el ok _ _) (zero_el ok)]
  exact hx x hxn
 rw [sumTo_one ((F.n : Int) - 1) (-1) hx0 (by rw [phi, if_pos ((hiff x0 hx0).2 rfl)]) fun x hxn hne => by rw [phi, if_neg fun e => hne ((hiff x hxn).1 e)]]
 omega
def wl : List Int → Nat
 | [] => 0
 | x :: v => wl v + if x = 0 then 0 else 1
theorem wl_le : ∀ v : List Int, wl v ≤ v.length
 | [] => Nat.le_refl _
 | x :: v => by
  have := wl_le v
  rw [wl, List.length_cons]
  split <;> omega
def sj (F : FD) (c : List Int) (j : Nat) (b : Int) : Int := smv F.n c.length fun v => if wl v = j then phi F (F.add b (lf F c v)) else 0
def sjp (F : FD) (c : List Int) : Nat → Int → Int
 | 0, _ => 0
 | j + 1, b => sj F c j b
theorem sj_eq (hG : F.Good) : ∀ (c : List Int), (∀ x ∈ c, 0 ≤ x ∧ x < F.n) → ∀ (j : Nat) (b : Int), F.el b → sj F c j b = phi F b * kS F.n (wl c) (c.length - wl c) j := by
 have ok := hG.ok
 obtain ⟨n2, _⟩ := ok.n_bd
 intro c
 induction c with
 | nil =>
  intro _ j b hb
  show (if wl [] = j then phi F (F.add b 0) else 0) = _
  rw [add_zero' ok hb]
  cases j with
  | zero => rw [if_pos (show wl [] = 0 from rfl), kS_zero, Int.mul_one]
  | succ j =>
   rw [if_neg (by show ¬ (0 : Nat) = j + 1; omega)]
   have h0 : kS F.n (wl []) (([] : List Int).length - wl []) (j + 1) = 0 := by
    show sumTo (kq F.n 0 0 (j + 1)) (j + 1 + 1) = 0
    rw [sumTo_congr (g := fun _ => 0) fun s hs => ?_, sumTo_const, Int.mul_zero]
    rw [kq]
    rcases Nat.eq_zero_or_pos s with h | h
    · rw [h, bin_big (n := 0) (k := j + 1 - 0) (by omega)]; simp
    · rw [bin_big (n := 0) (k := s) (by omega)]; simp
   rw [h0, Int.mul_zero]
 | cons c0 c ih =>
  intro hel j b hb
  have h0 := hel c0 List.mem_cons_self
  have hc : ∀ x ∈ c, 0 ≤ x ∧ x < F.n := fun x hx => hel x (List.mem_cons_of_mem _ hx)
  have hwl := wl_le c
  have e0 : smv F.n c.length (fun v => if wl ((((0 : Nat) : Int)) :: v) = j then phi F (F.add b (lf F (c0 :: c) (((0 : Nat) : Int) :: v))) else 0) = sj F c j b := smv_congr c.length fun v _ _ => by
   show (if wl v + (if (0 : Int) = 0 then 0 else 1) = j then phi F (F.add b (F.add (F.mul c0 0) (lf F c v))) else 0) = _
   rw [if_pos rfl, Nat.add_zero, mul_zero_all ok, zero_add' ok (lf_el ok _ _)]
  have e1 : ∀ x : Nat, 1 ≤ x → smv F.n c.length (fun v => if wl ((x : Int) :: v) = j then phi F (F.add b (lf F (c0 :: c) ((x : Int) :: v))) else 0) =
      sjp F c j (F.add b (F.mul c0 x)) := fun x hx => by
   have h2 : ∀ v, (if wl ((x : Int) :: v) = j then phi F (F.add b (lf F (c0 :: c) ((x : Int) :: v))) else 0) = if wl v + 1 = j then phi F (F.add (F.add b (F.mul c0 x)) (lf F c v)) else 0 := fun v => by
    show (if wl v + (if (x : Int) = 0 then 0 else 1) = j then phi F (F.add b (F.add (F.mul c0 x) (lf F c v))) else 0) = _
    rw [show (if (x : Int) = 0 then (0 : Nat) else 1) = 1 from if_neg (by omega), add_assoc' ok]
   rw [smv_congr c.length fun v _ _ => h2 v]
   cases j with
   | zero =>
    rw [smv_congr (h := fun _ => 0) c.length fun v _ _ => if_neg (by omega), smv_zero]
    rfl
   | succ j' =>
    exact smv_congr c.length fun v _ _ => by
     by_cases h3 : wl v = j'
     · rw [if_pos (by omega), if_pos h3]
     · rw [if_neg (by omega), if_neg h3]
  have hsum : sj F (c0 :: c) j b = sj F c j b + sumTo (fun x => sjp F c j (F.add b (F.mul c0 ((x + 1 : Nat) : Int)))) (F.n - 1) := by
   show sumTo (fun x => smv F.n c.length fun v => if wl ((x : Int) :: v) = j then phi F (F.add b (lf F (c0 :: c) ((x : Int) :: v))) else 0) F.n = _
   obtain ⟨m, hm⟩ : ∃ m, F.n = m + 1 := ⟨F.n - 1, by omega⟩
   rw [show sumTo (fun x => smv F.n c.length fun v => if wl ((x : Int) :: v) = j then phi F (F.add b (lf F (c0 :: c) ((x : Int) :: v))) else 0) F.n = sumTo (fun x => smv F.n c.length fun v => if wl ((x : Int) :: v) = j then phi F (F.add b (lf F (c0 :: c) ((x : Int) :: v))) else 0) (m + 1) by rw [← hm], sumTo_shift, e0, show F.n - 1 = m by omega]
   congr 1
   exact sumTo_congr fun x _ => e1 (x + 1) (by omega)
  rw [hsum, ih hc j b hb]
  cases j with
  | zero =>
   show _ + sumTo (fun _ => 0) (F.n - 1) = _
   rw [sumTo_const, Int.mul_zero, kS_zero, kS_zero]
   omega
  | succ j' =>
   show _ + sumTo (fun x => sj F c j' (F.add b (F.mul c0 ((x + 1 : Nat) : Int)))) (F.n - 1) = _
   rw [sumTo_congr fun x _ => ih hc j' (F.add b (F.mul c0 ((x + 1 : Nat) : Int))) (lin_el ok _ _ _)]
   rw [sumTo_congr (g := fun x => kS F.n (wl c) (c.length - wl c) j' * phi F (F.add b (F.mul c0 ((x + 1 : Nat) : Int)))) fun x _ => Int.mul_comm _ _, sumTo_mul]
   by_cases hz : c0 = 0
   · have hw : wl (c0 :: c) = wl c := by rw [wl, if_pos hz, Nat.add_zero]
     have hs : sumTo (fun x => phi F (F.add b (F.mul c0 ((x + 1 : Nat) : Int)))) (F.n - 1) = ((F.n : Int) - 1) * phi F b := by
      rw [sumTo_congr (g := fun _ => phi F b) fun x _ => by rw [hz, zero_mul_all ok, add_zero' ok hb], sumTo_const, show ((F.n - 1 : Nat) : Int) = (F.n : Int) - 1 by omega]
     rw [hs, hw, List.length_cons, show c.length + 1 - wl c = (c.length - wl c) + 1 by omega, kS_out, Int.mul_add]
     congr 1
     generalize kS F.n (wl c) (c.length - wl c) j' = A
     generalize phi F b = B
     generalize (F.n : Int) - 1 = D
     rw [Int.mul_comm D B, Int.mul_comm A, Int.mul_assoc]
   · have hw : wl (c0 :: c) = wl c + 1 := by rw [wl, if_neg hz]
     have hall := phi_sum hG (a := c0) (b := b) (by omega) h0.2 hb
     obtain ⟨m, hm⟩ : ∃ m, F.n = m + 1 := ⟨F.n - 1, by omega⟩
     rw [show sumTo (fun x => phi F (F.add b (F.mul c0 (x : Int)))) F.n = sumTo (fun x => phi F (F.add b (F.mul c0 ((x : Nat) : Int)))) (m + 1) by rw [← hm], sumTo_shift] at hall
     have hb0 : phi F (F.add b (F.mul c0 ((0 : Nat) : Int))) = phi F b := by
      show phi F (F.add b (F.mul c0 0)) = _
      rw [mul_zero_all ok, add_zero' ok hb]
     rw [hb0] at hall
     have hs : sumTo (fun x => phi F (F.add b (F.mul c0 ((x + 1 : Nat) : Int)))) (F.n - 1) = -phi F b := by
      rw [show F.n - 1 = m by omega]
      omega
     rw [hs, hw, List.length_cons, show c.length + 1 - (wl c + 1) = c.length - wl c by omega, kS_in, Int.mul_sub]
     generalize kS F.n (wl c) (c.length - wl c) j' = A
     generalize phi F b = B
     rw [Int.mul_neg, Int.mul_comm A B]
     omega
end
end Go.Proofs.Ytgmgpcaahanmiaa
namespace Go.Proofs.Ytgmgpcaahanmiaa
open Go.RowKit
def okF (p d : Int) (xs : List Int) : Bool :=
 inB p 2 64 && (inB d 1 6 && ((xs.length : Int) == d + 1 && (nth xs d.toNat == 1 && ((split (p ^ d.toNat)).1 == p && (xs.all (fun x => inB x 0 (p - 1)) && irr xs p)))))
def ppTab (p d : Nat) : Bool := (split ((p : Int) ^ d) == ((p : Int), (d : Int))) == ((facs p).length == 1 && decide ((p : Int) ^ d ≤ 64)) && ((split ((p : Int) ^ d)).1 == (p : Int)) == ((facs p).length == 1 && decide ((p : Int) ^ d ≤ 64))
theorem ppTab_ok : ∀ p : Nat, p < 65 → 2 ≤ p → ∀ d : Nat, d < 7 → 1 ≤ d → ppTab p d = true := by decide +kernel
theorem pp_iff {p d : Nat} (h1 : 2 ≤ p) (h2 : p ≤ 64) (h3 : 1 ≤ d) (h4 : d ≤ 6) :
    ((split ((p : Int) ^ d)).1 = (p : Int) ↔ ((facs p).length = 1 ∧ (p : Int) ^ d ≤ 64)) ∧ ((split ((p : Int) ^ d)).1 = (p : Int) → split ((p : Int) ^ d) = ((p : Int), (d : Int))) := by
 have t := ppTab_ok p (by omega) h1 d (by omega) h3
 rw [ppTab, Bool.and_eq_true, beq_iff_eq, beq_iff_eq] at t
 obtain ⟨t1, t2⟩ := t
 have e1 : (split ((p : Int) ^ d)).1 = (p : Int) ↔ ((facs p).length = 1 ∧ (p : Int) ^ d ≤ 64) := by
  rw [← beq_iff_eq (a := (split ((p : Int) ^ d)).1), t2, Bool.and_eq_true, beq_iff_eq, decide_eq_true_eq]
 refine ⟨e1, fun h => ?_⟩
 rw [← beq_iff_eq (a := split ((p : Int) ^ d)), t1, Bool.and_eq_true, beq_iff_eq, decide_eq_true_eq]
 exact e1.1 h
theorem okF_good {p d : Int} {xs : List Int} (h : okF p d xs = true) : ∃ F : FD, F.Good ∧ p = F.p ∧ d = (F.k : Int) ∧ xs = F.poly := by
 simp only [okF, Bool.and_eq_true, inB_true, beq_iff_eq, List.all_eq_true] at h
 obtain ⟨⟨a1, a2⟩, ⟨b1, b2⟩, c, e, f, g, i⟩ := h
 obtain ⟨P, rfl⟩ := Int.eq_ofNat_of_zero_le (show 0 ≤ p by omega)
 obtain ⟨K, rfl⟩ := Int.eq_ofNat_of_zero_le (show 0 ≤ d by omega)
 rw [Int.toNat_natCast] at e f
 obtain ⟨t1, t2⟩ := pp_iff (p := P) (d := K) (by omega) (by omega) (by omega) (by omega)
 refine ⟨⟨P, K, xs⟩, ⟨⟨a1, a2, by show 1 ≤ K; omega, by show K ≤ 6; omega, (t1.1 f).2, by show xs.length = K + 1; omega, fun x hx => ?_, e, i⟩, t2 f⟩, rfl, rfl, rfl⟩
 have := g x hx
 exact ⟨this.1, by show x < (P : Int); omega⟩
theorem okF_prime {p d : Int} (h1 : 2 ≤ p) (h2 : p ≤ 64) (h3 : 1 ≤ d) (h4 : d ≤ 6) : (split (p ^ d.toNat)).1 = p ↔ ((facs p).length = 1 ∧ capTo p 64 d.toNat ≤ 64) := by
 obtain ⟨P, rfl⟩ := Int.eq_ofNat_of_zero_le (show 0 ≤ p by omega)
 obtain ⟨K, rfl⟩ := Int.eq_ofNat_of_zero_le (show 0 ≤ d by omega)
 rw [Int.toNat_natCast, (pp_iff (p := P) (d := K) (by omega) (by omega) (by omega) (by omega)).1]
 constructor
 · rintro ⟨a, b⟩
   exact ⟨a, by rw [capTo_pow (by omega) _ b]; exact b⟩
 · rintro ⟨a, b⟩
   refine ⟨a, ?_⟩
   rcases Int.lt_or_le 64 ((P : Int) ^ K) with h | h
   · exfalso
     have : ∀ k, capTo P 64 k ≤ 64 → capTo P 64 k = (P : Int) ^ k := by
      intro k
      induction k with
      | zero => intro _; simp [capTo]
      | succ k ih =>
       intro hk
       by_cases hc : capTo P 64 k ≤ 64
       · rw [capTo_go hc, ih hc, Int.pow_succ]
       · rw [capTo_stop hc (k + 1) (by omega)] at hk; exact absurd hk hc
     rw [this K b] at b
     omega
   · exact h
theorem cap_small {p : Int} {d : Nat} (h1 : 2 ≤ p) (h3 : 1 ≤ d) (h : capTo p 64 d ≤ 64) : p ≤ 64 ∧ d ≤ 6 := by
 have e1 : capTo p 64 1 = p := by rw [capTo_go (show capTo p 64 0 ≤ 64 by simp [capTo])]; simp [capTo]
 constructor
 · rcases Int.lt_or_le 64 p with hp | hp
   · rw [capTo_stop (k := 1) (by rw [e1]; omega) d h3, e1] at h; omega
   · exact hp
 · rcases Nat.lt_or_ge 6 d with hd | hd
   · exfalso
     have e : ∀ k, (2 : Int) ^ k ≤ capTo p 64 k ∨ 64 < capTo p 64 k := by
      intro k
      induction k with
      | zero => left; simp [capTo]
      | succ k ih =>
       by_cases hc : capTo p 64 k ≤ 64
       · left
         rw [capTo_go hc, Int.pow_succ]
         rcases ih with ih | ih
         · exact Int.mul_le_mul ih h1 (by omega) (by have := capTo_pos (b := p) (l := 64) (by omega) k; omega)
         · omega
       · right; rw [capTo_stop hc (k + 1) (by omega)]; omega
     have h7 : capTo p 64 7 ≤ 64 := by
      rcases Int.lt_or_le 64 (capTo p 64 7) with hh | hh
      · rw [capTo_stop (k := 7) (by omega) d (by omega)] at h; omega
      · exact hh
     rcases e 7 with e7 | e7
     · have : (2 : Int) ^ 7 = 128 := by decide
       omega
     · omega
   · exact hd
def okI (p d : Int) (xs : List Int) : Bool :=
 ((facs p).length == 1) && (decide (1 ≤ d) && (decide (capTo p 64 d.toNat ≤ 64) && ((xs.length : Int) == d + 1 && (nth xs d.toNat == 1 && (xs.all (fun x => inB x 0 (p - 1)) && irr xs p)))))
theorem facs_prime {p : Int} (h : (facs p).length = 1) : 2 ≤ p ∧ p ≤ 1000000 := by
 unfold facs at h
 by_cases hb : inB p 1 1000000 = true
 · obtain ⟨h1, h2⟩ := inB_true.1 hb
   rw [if_pos hb] at h
   refine ⟨?_, h2⟩
   rcases Int.lt_or_le 1 p with h3 | h3
   · omega
   · obtain rfl : p = 1 := by omega
     exact absurd h (by decide)
 · rw [if_neg hb] at h
   simp at h
theorem okI_eq (p d : Int) (xs : List Int) : okI p d xs = okF p d xs := by
 unfold okI okF
 by_cases h1 : (facs p).length = 1 ∧ 1 ≤ d ∧ capTo p 64 d.toNat ≤ 64
 · obtain ⟨a, b, c⟩ := h1
   obtain ⟨p2, _⟩ := facs_prime a
   obtain ⟨p64, d6⟩ := cap_small p2 (by omega) c
   have e := (okF_prime p2 p64 b (by omega)).2 ⟨a, c⟩
   rw [inB_yes p2 p64, inB_yes b (by omega), e]
   simp [a, b, c]
 · have l : (((facs p).length == 1) && (decide (1 ≤ d) && (decide (capTo p 64 d.toNat ≤ 64) && ((xs.length : Int) == d + 1 && (nth xs d.toNat == 1 && (xs.all (fun x => inB x 0 (p - 1)) && irr xs p)))))) = false := by
     rw [Bool.eq_false_iff]
     intro hh
     simp only [Bool.and_eq_true, beq_iff_eq, decide_eq_true_eq] at hh
     exact h1 ⟨hh.1, hh.2.1, hh.2.2.1⟩
   rw [l, eq_comm, Bool.eq_false_iff]
   intro hh
   simp only [Bool.and_eq_true, beq_iff_eq, inB_true] at hh
   obtain ⟨⟨p2, p64⟩, ⟨d1, d6⟩, _, _, e, _⟩ := hh
   obtain ⟨a, c⟩ := (okF_prime p2 p64 d1 d6).1 e
   exact h1 ⟨a, d1, c⟩
end Go.Proofs.Ytgmgpcaahanmiaa
namespace Go.Proofs.Ytgmgpcaahanmiaa
open Go.RowKit
theorem anyL_firstOfL {p : List Int → Bool} {xss : List (List Int)} : xss.any p = decide (0 ≤ firstOfL p xss) := by
 cases h : xss.findIdx? p with
 | none =>
  rw [firstOfL, h, List.any_eq_false.2 fun x hx => by rw [List.findIdx?_eq_none_iff.1 h x hx]; simp]
  rfl
 | some i =>
  have h0 := h
  rw [List.findIdx?_eq_some_iff_getElem] at h
  obtain ⟨hi, hp, _⟩ := h
  rw [firstOfL, h0, List.any_eq_true.2 ⟨_, List.getElem_mem hi, hp⟩]
  simp
theorem idxL2 (fn : Nat) (p : List Int → Bool) (q0 q1 : Nat) (a : Option Addr) (cp : Nat) (xss : List (List Int)) (w : World) (hent : ∀ (args : Array Value) (w : World), (callFunc fn args).run Try.prog w = .ok (.enter fn args) w) (hx : RdS w a xss) (hf : ∀ (k : Nat) (ai : Option Addr) (ci : Nat) (W : World), k < xss.length → Rd W ai (nthL xss k) → Below w.heap.size w W → Calls Try.prog fn #[.slice ai (nthL xss k).length ci, .pointer (some ⟨q0, 0, none⟩), .pointer (some ⟨q1, 0, none⟩)] W fun e W' => e = .returned (.bool (p (nthL xss k))) ∧ Below W.heap.size W W') :
    Calls Try.prog 139 #[.slice a xss.length cp, .func (.func fn) #[] #[.pointer (some ⟨q0, 0, none⟩), .pointer (some ⟨q1, 0, none⟩)]] w fun e w' => e = .returned (.int .i64 (firstOfL p xss)) ∧ Below w.heap.size w w' := by
 have hxl := hx.len
 have HF := hide hf
 clear hf
 go_enter Try.func139, Try.ntmps139
 go_wp2_with fail
 go_loopw [8] (fun i wr => ∃ k : Nat, i = .int .i64 k ∧ k ≤ xss.length ∧ Hid (∀ j, j < k → p (nthL xss j) = false) ∧ Below w.heap.size w wr) (fun i _ => xss.length - (intOf i).toNat)
 case atStart => exact ⟨0, rfl, Nat.zero_le _, fun j hj => by omega, Below.refl _ _⟩
 case round =>
  obtain ⟨k, rfl, hk, hq, hb⟩ := hrel
  have hsz := hb.size
  by_cases hkl : k < xss.length
  · obtain ⟨b1, o1, rfl, _, hc⟩ := (hx.below hb).at_ (by omega)
    obtain ⟨ai, ci, h1, hr1⟩ := hc k hkl
    have hcl := unhide HF k ai ci wr hkl hr1 hb
    obtain ⟨r, hr⟩ : ∃ r, p (nthL xss k) = r := ⟨_, rfl⟩
    have HR := Lib.hid hr
    rw [hr] at hcl
    generalize nthL xss k = row at h1 hcl hr1
    have HC := hide hcl
    clear hr hcl hc hr1
    go_wp2_with fail
    refine (unhide HC).mono ?_
    rintro e w1 ⟨rfl, b1⟩
    have hb1 := hb.trans (b1.mono hsz)
    cases r
    · go_wp2
      go_roundw
      case rel =>
       refine ⟨k + 1, by go_num, by omega, fun j hj => ?_, hb1⟩
       rcases Nat.lt_succ_iff_lt_or_eq.1 hj with h | rfl
       · exact hq.out j h
       · exact HR.out
      case measure => simp [intOf]; omega
    · go_wp2
      go_ret
      exact ⟨ret_int (firstOfL_yes hkl HR.out hq.out).symm, hb1⟩
  · go_wp2
    go_ret
    exact ⟨ret_int (firstOfL_no (fun j hj => hq.out j (by omega))).symm, hb⟩
theorem hasL2 (fn : Nat) (p : List Int → Bool) (q0 q1 : Nat) (a : Option Addr) (cp : Nat) (xss : List (List Int)) (w : World) (hent : ∀ (args : Array Value) (w : World), (callFunc fn args).run Try.prog w = .ok (.enter fn args) w) (hx : RdS w a xss) (hf : ∀ (k : Nat) (ai : Option Addr) (ci : Nat) (W : World), k < xss.length → Rd W ai (nthL xss k) → Below w.heap.size w W → Calls Try.prog fn #[.slice ai (nthL xss k).length ci, .pointer (some ⟨q0, 0, none⟩), .pointer (some ⟨q1, 0, none⟩)] W fun e W' => e = .returned (.bool (p (nthL xss k))) ∧ Below W.heap.size W W') :
    Calls Try.prog 222 #[.slice a xss.length cp, .func (.func fn) #[] #[.pointer (some ⟨q0, 0, none⟩), .pointer (some ⟨q1, 0, none⟩)]] w fun e w' => e = .returned (.bool (xss.any p)) ∧ Below w.heap.size w w' := by
 have hc := idxL2 fn p q0 q1 a cp xss w hent hx hf
 clear hent
 rw [anyL_firstOfL]
 generalize hf : firstOfL p xss = r at hc
 have HF := Lib.hid hf
 have HC := hide hc
 clear hf hc
 by_cases h0 : 0 ≤ r
 · go_enter Try.func222, Try.ntmps222
   go_wp2_with fail
   refine (unhide HC).mono ?_
   rintro e w1 ⟨rfl, b1⟩
   go_wp2
   go_ret
   exact ⟨ret_bool (by simp [h0]), b1⟩
 · go_enter Try.func222, Try.ntmps222
   go_wp2_with fail
   refine (unhide HC).mono ?_
   rintro e w1 ⟨rfl, b1⟩
   go_wp2
   go_ret
   exact ⟨ret_bool (by simp [show ¬ 0 ≤ r by omega]), b1⟩
end Go.Proofs.Ytgmgpcaahanmiaa
namespace Go.Proofs.Ytgmgpcaahanmiaa
open Go.RowKit
attribute [local go_sem ↓] Go.wp_at_zero Go.wp_at_succ
def isElem (q x : Int) : Bool := inB x 0 (q - 1)
def notElem (q x : Int) : Bool := !isElem q x
def elems (q : Int) (xs : List Int) : Bool := !xs.any (notElem q)
theorem elems_true {q : Int} {xs : List Int} : elems q xs = true ↔ ∀ x ∈ xs, 0 ≤ x ∧ x < q := by
 rw [elems, Bool.not_eq_true', List.any_eq_false]
 constructor
 · intro h x hx
   have := h x hx
   simp [notElem, isElem, inB] at this
   omega
 · intro h x hx
   have := h x hx
   simp [notElem, isElem, inB]
   omega
theorem areIn1_any (q : Int) (gq : Nat) (x : Int) (w : World) (h1 : 1 ≤ q) (h2 : q ≤ 64) (hq : w.cell? ⟨gq, 0, none⟩ = some (.int .i64 q)) :
    Calls Try.prog 172 #[.int .i64 x, .pointer (some ⟨gq, 0, none⟩)] w fun e w' => e = .returned (.bool (notElem q x)) ∧ w = w' := by
 have hw := within_any x 0 (q - 1) w
 unfold notElem isElem
 generalize inB x 0 (q - 1) = r at hw
 have HW := hide hw
 clear hw
 go_enter Try.func172, Try.ntmps172
 go_wp2_with fail
 refine (unhide HW).mono ?_
 rintro e w1 ⟨rfl, rfl⟩
 go_wp2
 go_ret
 exact ⟨rfl, rfl⟩
theorem idx_areIn (q : Int) (gq : Nat) (hq1 : 1 ≤ q) (hq2 : q ≤ 64) (a : Option Addr) (c : Nat) (xs : List Int) (w : World) (hx : Rd w a xs) (hq : w.cell? ⟨gq, 0, none⟩ = some (.int .i64 q)) :
    Calls Try.prog 92 #[.slice a xs.length c, .func (.func 172) #[] #[.pointer (some ⟨gq, 0, none⟩)]] w fun e w' => e = .returned (.int .i64 (firstOf (notElem q) xs)) ∧ w = w' := by
 have hxl := hx.len
 have hq0 := hq
 go_enter Try.func92, Try.ntmps92
 go_wp2_with fail
 go_loop [8] (fun i => ∃ k : Nat, i = .int .i64 k ∧ k ≤ xs.length ∧ Hid (∀ j, j < k → (notElem q) (nth xs j) = false)) (fun i => xs.length - (intOf i).toNat)
 case atStart => exact ⟨0, rfl, Nat.zero_le _, fun j hj => by omega⟩
 case round =>
  obtain ⟨k, rfl, hk, hq⟩ := hrel
  by_cases hkl : k < xs.length
  · obtain ⟨b1, o1, rfl, _, hc⟩ := hx.at_ (by omega)
    have h1 := hc k hkl
    clear hc hx
    obtain ⟨r, hr⟩ : ∃ r, (notElem q) (nth xs k) = r := ⟨_, rfl⟩
    have HR := Lib.hid hr
    have hcl := areIn1_any q gq (nth xs k) w hq1 hq2 hq0
    rw [hr] at hcl
    have HC := hide hcl
    clear hr hcl
    go_wp2_with fail
    refine (unhide HC).mono ?_
    rintro e w1 ⟨rfl, rfl⟩
    cases r
    · go_wp2
      go_round
      case rel =>
       refine ⟨k + 1, by go_num, by omega, fun j hj => ?_⟩
       rcases Nat.lt_succ_iff_lt_or_eq.1 hj with h | rfl
       · exact hq.out j h
       · exact HR.out
      case measure => simp [intOf]; omega
    · go_wp2
      go_ret
      exact ⟨ret_int (firstOf_yes hkl HR.out hq.out).symm, rfl⟩
  · go_wp2
    go_ret
    exact ⟨ret_int (firstOf_no (fun j hj => hq.out j (by omega))).symm, rfl⟩
theorem has_areIn (q : Int) (gq : Nat) (hq1 : 1 ≤ q) (hq2 : q ≤ 64) (a : Option Addr) (c : Nat) (xs : List Int) (w : World) (hx : Rd w a xs) (hq : w.cell? ⟨gq, 0, none⟩ = some (.int .i64 q)) :
    Calls Try.prog 171 #[.slice a xs.length c, .func (.func 172) #[] #[.pointer (some ⟨gq, 0, none⟩)]] w fun e w' => e = .returned (.bool (xs.any (notElem q))) ∧ w = w' := by
 have hc := idx_areIn q gq hq1 hq2 a c xs w hx hq
 rw [any_firstOf]
 generalize hf : firstOf (notElem q) xs = r at hc
 have HF := Lib.hid hf
 have HC := hide hc
 clear hf hc
 by_cases h0 : 0 ≤ r
 · go_enter Try.func171, Try.ntmps171
   go_wp2_with fail
   refine (unhide HC).mono ?_
   rintro e w1 ⟨rfl, rfl⟩
   go_wp2
   go_ret
   exact ⟨ret_bool (by simp [h0]), rfl⟩
 · go_enter Try.func171, Try.ntmps171
   go_wp2_with fail
   refine (unhide HC).mono ?_
   rintro e w1 ⟨rfl, rfl⟩
   go_wp2
   go_ret
   exact ⟨ret_bool (by simp [show ¬ 0 ≤ r by omega]), rfl⟩
theorem areIn_any (q : Int) (a : Option Addr) (c : Nat) (xs : List Int) (w : World) (h1 : 1 ≤ q) (h2 : q ≤ 64) (hx : Rd w a xs) :
    Calls Try.prog 88 #[.int .i64 q, .slice a xs.length c] w fun e w' => e = .returned (.bool (elems q xs)) ∧ Below w.heap.size w w' := by
 obtain ⟨W0, hW0⟩ : ∃ W0, W0 = w.alloc (.cells #[.int .i64 q] 2) := ⟨_, rfl⟩
 have hbW : Below w.heap.size w W0 := by rw [hW0]; exact (Below.refl _ _).alloc (Nat.le_refl _) _
 have hc := has_areIn q w.heap.size h1 h2 a c xs W0 (hx.below hbW) (by rw [hW0]; exact (Blk.new w 2 #[.int .i64 q] rfl).cell 0)
 unfold elems
 generalize xs.any (notElem q) = r at hc
 have HC := hide hc
 have HW := Lib.hid hW0
 clear hc hW0
 go_enter Try.func88, Try.ntmps88
 go_wp2_with fail
 rw [← HW.out]
 refine (unhide HC).mono ?_
 rintro e w1 ⟨rfl, rfl⟩
 go_wp2
 go_ret
 exact ⟨rfl, hbW⟩
def ResL (w : World) (r : List Int × Int) (e : Ending) (w' : World) : Prop := ∃ v, e = .returned (.tuple #[v, .int .i64 r.2]) ∧ Own w' w.heap.size v r.1 ∧ Below w.heap.size w w'
end Go.Proofs.Ytgmgpcaahanmiaa
