/-
  Texts joined.
-/
import Derived.Test.YtpglmogoddgmoaaJD1
set_option linter.unusedVariables false
set_option linter.unusedSimpArgs false
set_option maxRecDepth 100000
set_option maxHeartbeats 40000000
namespace Go.Proofs.Ytpglmogoddgmoaa
open Go.RowKit
theorem l00Own_any (a : Option Addr) (c : Nat) (xs : List Int) (w : World) (hx : Rd w a xs) :
    Calls Try.prog 148 #[.slice a xs.length c] w fun e w' => ∃ v, e = .returned v ∧ Own w' w.heap.size v xs ∧ Below w.heap.size w w' := by
 have hxl := hx.len
 go_enter Try.func148, Try.ntmps148
 go_wp2_with (at_builtin; refine wpList_append_ints rfl (.tmp 3) (.tmp 4) rfl w.heap.size _ [] xs rfl (Own.empty w (Nat.le_refl _)) a xs.length c rfl rfl (hx.alloc _) (by simpa using hxl) (by simp) ?_; intro v1 w1 hown1 hg1 _)
 go_ret
 exact ⟨_, rfl, by simpa using hown1, Below.step ((Below.refl _ _).alloc (Nat.le_refl _) _) hg1 (Own.empty w (Nat.le_refl _)) (Nat.le_refl _) (by simp)⟩
theorem l03Digits_any (n p : Int) (k : Nat) (w : World) (hn : 0 ≤ n) (hn2 : n ≤ 9223372036854775807) (hp : 1 ≤ p) (hp2 : p ≤ 1000000) (hk : k ≤ 1000000) :
    Calls Try.prog 173 #[.int .i64 n, .int .i64 p, .int .i64 k] w fun e w' => ∃ v, e = .returned v ∧ Own w' w.heap.size v (dig n p k) ∧ Below w.heap.size w w' := by
 go_enter Try.func173, Try.ntmps173
 go_wp2
 go_loopw [0, 2, 7] (fun nv kv v wr => ∃ (j r : Nat) (m : Int), nv = .int .i64 m ∧ kv = .int .i64 (r : Int) ∧ Hid (j + r = k) ∧ r ≤ 1000000 ∧ j ≤ 1000000 ∧ 0 ≤ m ∧ m ≤ 9223372036854775807 ∧ Hid (m = n / p ^ j) ∧ Own wr w.heap.size v (dig n p j) ∧ Below w.heap.size w wr) (fun _ kv _ _ => (intOf kv).toNat)
 case atStart => exact ⟨0, k, n, rfl, rfl, by simp [Hid], hk, by omega, hn, hn2, by simp [Hid], Own.empty w (Nat.le_refl _), (Below.refl _ _).alloc (Nat.le_refl _) _⟩
 case round =>
  obtain ⟨j, r, m, rfl, rfl, hjr, hr, hj, hm0, hm1, hm, ho, hb⟩ := hrel
  have hsz := hb.size
  by_cases hr0 : 0 < r
  · have e1 := Int.emod_nonneg m (show p ≠ 0 by omega)
    have e2 := Int.emod_lt_of_pos m (show 0 < p by omega)
    have e3 := Int.ediv_nonneg hm0 (show 0 ≤ p by omega)
    have e4 : m / p ≤ m := Int.ediv_le_self _ hm0
    have hdl := dig_len n p j
    go_wp2_with (at_builtin; refine wpList_append_ints rfl (.tmp 13) (.tmp 17) rfl w.heap.size u7 (dig n p j) [m % p] rfl (ho.alloc _) _ 1 1 rfl rfl (Rd.one wr (m % p) _) (by rw [hdl]; simp; omega) (by simp; omega) ?_; intro v1 w1 hown1 hg1 _)
    go_roundw
    case rel => exact ⟨j + 1, r - 1, m / p, rfl, by go_num, by have := hjr.out; show _ = _; omega, by omega, by have := hjr.out; omega, e3, by omega, by show _ = _; rw [hm.out, div_pow_succ n p (by omega)], by rw [dig_succ, ← hm.out]; exact hown1, Below.step (hb.alloc hsz _) hg1 (ho.alloc _) (Nat.le_refl _) (by simp; omega)⟩
    case measure => first | (simp [intOf]; done) | (simp [intOf]; omega)
  · go_wp2
    go_ret
    exact ⟨_, rfl, by have := hjr.out; obtain rfl : j = k := by omega
                      exact ho, hb⟩
theorem l03Number_any (a : Option Addr) (c : Nat) (xs : List Int) (p : Int) (w : World) (hx : Rd w a xs) (hp : 1 ≤ p) (hp2 : p ≤ 1000000) (hr : InR p xs) (hq : p ^ xs.length ≤ 1099511627776) :
    Calls Try.prog 179 #[.slice a xs.length c, .int .i64 p] w fun e w' => e = .returned (.int .i64 (num p xs)) ∧ w = w' := by
 have hxl := hx.len
 have bnd : ∀ m, m < xs.length → 0 ≤ num p (xs.drop (m + 1)) * p ∧ num p (xs.drop (m + 1)) * p ≤ 1099511627776 ∧ 0 ≤ nth xs m ∧ nth xs m < p ∧ num p (xs.drop (m + 1)) * p + nth xs m ≤ 1099511627776 := by
  intro m hm
  have h1 := num_bound (p := p) (by omega) (xs := xs.drop m) (fun x hx => hr x (List.mem_of_mem_drop hx))
  have h2 := num_bound (p := p) (by omega) (xs := xs.drop (m + 1)) (fun x hx => hr x (List.mem_of_mem_drop hx))
  rw [num_drop p hm] at h1
  have h3 : p ^ (xs.drop m).length ≤ p ^ xs.length := pow_mono hp (by simp)
  have h4 := hr.nth hm
  have h5 : 0 ≤ num p (xs.drop (m + 1)) * p := Int.mul_nonneg h2.1 (by omega)
  exact ⟨h5, by omega, h4.1, h4.2, by omega⟩
 have BN := hide bnd
 clear bnd hq
 go_enter Try.func179, Try.ntmps179
 go_wp2
 go_loop [5, 6] (fun o i => ∃ (j : Nat) (x y : Int), i = .int .i64 x ∧ o = .int .i64 y ∧ Hid (x = j - 1) ∧ j ≤ xs.length ∧ -1 ≤ x ∧ x < 1073741824 ∧ Hid (y = num p (xs.drop j)) ∧ 0 ≤ y ∧ y ≤ 1099511627776) (fun _ i => (intOf i + 1).toNat)
 case atStart => exact ⟨xs.length, _, 0, rfl, rfl, by simp [Hid], Nat.le_refl _, by omega, by omega, by simp [Hid, num], by omega, by omega⟩
 case round =>
  obtain ⟨j, x, y, rfl, rfl, hxj, hj, hx0, hx1, hy, hy0, hy1⟩ := hrel
  by_cases h0 : 0 ≤ x
  · obtain ⟨m, rfl⟩ := Int.eq_ofNat_of_zero_le h0
    obtain rfl : j = m + 1 := by have := hxj.out; omega
    obtain ⟨b1, b2, b3, b4, b5⟩ := (unhide BN) m (by omega)
    rw [← hy.out] at b1 b2 b5
    obtain ⟨g, o, rfl, _, hcx⟩ := hx.at_ (by omega)
    have hc := hcx m (by omega)
    clear hcx hx
    go_wp2
    go_round
    case rel => exact ⟨m, _, _, rfl, rfl, rfl, by omega, by omega, by omega, by have := hy.out; subst this; exact (num_drop p (by omega)).symm, by omega, by omega⟩
    case measure => first | (simp [intOf]; done) | (simp [intOf]; omega)
  · go_wp2
    go_ret
    exact ⟨ret_int (by have := hxj.out; obtain rfl : j = 0 := by omega
                       rw [hy.out]; rfl), rfl⟩
theorem numberOf_any (a : Option Addr) (c : Nat) (xs : List Int) (p : Int) (w : World) (hx : Rd w a xs) (hp : 1 ≤ p) (hp2 : p ≤ 1000000) (hr : InR p xs) (hq : p ^ xs.length ≤ 1099511627776) :
    Calls Try.prog 174 #[.slice a xs.length c, .int .i64 p] w fun e w' => e = .returned (.int .i64 (num p xs)) ∧ w = w' := by
 have hxl := hx.len
 have bnd : ∀ m, m < xs.length → 0 ≤ num p (xs.drop (m + 1)) * p ∧ num p (xs.drop (m + 1)) * p ≤ 1099511627776 ∧ 0 ≤ nth xs m ∧ nth xs m < p ∧ num p (xs.drop (m + 1)) * p + nth xs m ≤ 1099511627776 := by
  intro m hm
  have h1 := num_bound (p := p) (by omega) (xs := xs.drop m) (fun x hx => hr x (List.mem_of_mem_drop hx))
  have h2 := num_bound (p := p) (by omega) (xs := xs.drop (m + 1)) (fun x hx => hr x (List.mem_of_mem_drop hx))
  rw [num_drop p hm] at h1
  have h3 : p ^ (xs.drop m).length ≤ p ^ xs.length := pow_mono hp (by simp)
  have h4 := hr.nth hm
  have h5 : 0 ≤ num p (xs.drop (m + 1)) * p := Int.mul_nonneg h2.1 (by omega)
  exact ⟨h5, by omega, h4.1, h4.2, by omega⟩
 have BN := hide bnd
 clear bnd hq
 go_enter Try.func174, Try.ntmps174
 go_wp2
 go_loop [5, 6] (fun o i => ∃ (j : Nat) (x y : Int), i = .int .i64 x ∧ o = .int .i64 y ∧ Hid (x = j - 1) ∧ j ≤ xs.length ∧ -1 ≤ x ∧ x < 1073741824 ∧ Hid (y = num p (xs.drop j)) ∧ 0 ≤ y ∧ y ≤ 1099511627776) (fun _ i => (intOf i + 1).toNat)
 case atStart => exact ⟨xs.length, _, 0, rfl, rfl, by simp [Hid], Nat.le_refl _, by omega, by omega, by simp [Hid, num], by omega, by omega⟩
 case round =>
  obtain ⟨j, x, y, rfl, rfl, hxj, hj, hx0, hx1, hy, hy0, hy1⟩ := hrel
  by_cases h0 : 0 ≤ x
  · obtain ⟨m, rfl⟩ := Int.eq_ofNat_of_zero_le h0
    obtain rfl : j = m + 1 := by have := hxj.out; omega
    obtain ⟨b1, b2, b3, b4, b5⟩ := (unhide BN) m (by omega)
    rw [← hy.out] at b1 b2 b5
    obtain ⟨g, o, rfl, _, hcx⟩ := hx.at_ (by omega)
    have hc := hcx m (by omega)
    clear hcx hx
    go_wp2
    go_round
    case rel => exact ⟨m, _, _, rfl, rfl, rfl, by omega, by omega, by omega, by have := hy.out; subst this; exact (num_drop p (by omega)).symm, by omega, by omega⟩
    case measure => first | (simp [intOf]; done) | (simp [intOf]; omega)
  · go_wp2
    go_ret
    exact ⟨ret_int (by have := hxj.out; obtain rfl : j = 0 := by omega
                       rw [hy.out]; rfl), rfl⟩
theorem l03Power_any (p : Int) (k : Nat) (w : World) (hp : 1 ≤ p) (hp2 : p ≤ 1000000) (hk : k ≤ 1000000) (hq : p ^ k ≤ 1099511627776) :
    Calls Try.prog 134 #[.int .i64 p, .int .i64 k] w fun e w' => e = .returned (.int .i64 (p ^ k)) ∧ w = w' := by
 have bnd : ∀ j, j < k → 0 ≤ p ^ j * p ∧ p ^ j * p ≤ 1099511627776 := by
  intro j hj
  have h1 : p ^ (j + 1) ≤ p ^ k := pow_mono hp hj
  rw [Int.pow_succ] at h1
  exact ⟨Int.mul_nonneg (Int.pow_nonneg (by omega)) (by omega), by omega⟩
 have BN := hide bnd
 clear bnd hq
 go_enter Try.func134, Try.ntmps134
 go_wp2
 go_loop [1, 5] (fun kv o => ∃ (j r : Nat) (y : Int), kv = .int .i64 (r : Int) ∧ o = .int .i64 y ∧ Hid (j + r = k) ∧ r ≤ 1000000 ∧ Hid (y = p ^ j)) (fun kv _ => (intOf kv).toNat)
 case atStart => exact ⟨0, k, 1, rfl, rfl, by simp [Hid], hk, by simp [Hid]⟩
 case round =>
  obtain ⟨j, r, y, rfl, rfl, hjr, hr, hy⟩ := hrel
  by_cases h0 : 0 < r
  · obtain ⟨b1, b2⟩ := (unhide BN) j (by have := hjr.out; omega)
    rw [← hy.out] at b1 b2
    go_wp2
    go_round
    case rel => exact ⟨j + 1, r - 1, _, by go_num, rfl, by have := hjr.out; show _ = _; omega, by omega, by show _ = _; rw [hy.out, Int.pow_succ]⟩
    case measure => first | (simp [intOf]; done) | (simp [intOf]; omega)
  · go_wp2
    go_ret
    exact ⟨ret_int (by have := hjr.out; obtain rfl : j = k := by omega
                       exact hy.out), rfl⟩
end Go.Proofs.Ytpglmogoddgmoaa
namespace Go.Proofs.Ytpglmogoddgmoaa
open Go.RowKit
theorem pp_table : ∀ q : Nat, q < 65 → ppOf (factors q) = splitN q ∨ q < 2 := by decide +kernel
def sizeOk (q : Nat) : Bool :=
 (splitN q).1 == 0 || (decide (2 ≤ (splitN q).1) && decide ((splitN q).1 ≤ 64) && decide (1 ≤ (splitN q).2) && decide ((splitN q).2 ≤ 6) && (splitN q).1 ^ (splitN q).2.toNat == (q : Int) &&
  (List.range 64).any fun (n : Nat) => irr (dig n (splitN q).1 (splitN q).2.toNat ++ [1]) (splitN q).1)
theorem size_table : ∀ q : Nat, q < 65 → 2 ≤ q → sizeOk q = true := by decide +kernel
def isField (q : Int) : Bool := decide (0 < (split q).1)
end Go.Proofs.Ytpglmogoddgmoaa
namespace Go.Proofs.Ytpglmogoddgmoaa
open Go.RowKit
theorem results_cell_tmp_row {P : Program} {fn : Func} {p u : Tmp} {ty : TypeId} (h : fn.results = #[.cell p ty, .tmp u]) (tmps : Array Value) (w : World) (g : Nat) (t : TypeId) (cs : Array Value) (d : TypeDesc)
    (hp : tmps.getD p undef = .pointer (some ⟨g, 0, none⟩)) (hg : Blk w g t cs)
    (hu : P.underlying ty = some d) (hd : (match d with | .struct _ | .array _ _ => true | _ => false) = true) (hi : (P.info? ty).map (·.size) = some cs.size) :
    (results fn tmps).run P w = .ok (.tuple #[.agg cs, tmps.getD u undef]) w := by
 rw [results_cell_tmp h, hp]
 simp [asAddr, run_loadVar_row w g t ty cs (0, 0) d hg hu hd hi, Result.andThen]
def polyAt (p : Int) (k n : Nat) : List Int := dig n p k ++ [1]
def leastN (p : Int) (k : Nat) : Nat := ((List.range 64).find? (fun n => irr (polyAt p k n) p)).getD 0
def mkF (q : Int) : Int × Int × List Int × Int :=
 if isField q then ((split q).1, (split q).2, polyAt (split q).1 (split q).2.toNat (leastN (split q).1 (split q).2.toNat), 0) else (0, 0, [], 2)
theorem polyAt_len (p : Int) (k n : Nat) : (polyAt p k n).length = k + 1 := by rw [polyAt, List.length_append, dig_len]; rfl
structure SizeOk (q p : Int) (k : Nat) : Prop where
 lo : 2 ≤ p
 hi : p ≤ 64
 k1 : 1 ≤ k
 k6 : k ≤ 6
 pow : p ^ k = q
 some_ : ∃ n : Nat, n < 64 ∧ irr (polyAt p k n) p = true
theorem isField_size {q : Int} (h : isField q = true) : 2 ≤ q ∧ q ≤ 64 ∧ split q = ppI q ∧ ∃ k : Nat, (split q).2 = (k : Int) ∧ SizeOk q (split q).1 k := by
 have hs := h
 rw [isField, decide_eq_true_eq, split] at h
 by_cases hb : inB q 2 64 = true
 · obtain ⟨h2, h64⟩ := inB_true.1 hb
   obtain ⟨n, rfl⟩ := Int.eq_ofNat_of_zero_le (show 0 ≤ q by omega)
   rw [if_pos hb, Int.toNat_natCast] at h
   have e : split (n : Int) = splitN n := by rw [split, if_pos hb, Int.toNat_natCast]
   have t1 := pp_table n (by omega)
   have t2 := size_table n (by omega) (by omega)
   have ef : ppI (n : Int) = splitN n := by
    rw [ppI, facs, if_pos (inB_yes (by omega) (by omega)), Int.toNat_natCast]
    rcases t1 with t1 | t1
    · exact t1
    · omega
   rw [e, ef]
   refine ⟨h2, h64, rfl, (splitN n).2.toNat, ?_⟩
   simp only [sizeOk, Bool.or_eq_true, Bool.and_eq_true, decide_eq_true_eq, beq_iff_eq, List.any_eq_true, List.mem_range] at t2
   rcases t2 with t2 | ⟨⟨⟨⟨⟨a1, a2⟩, a3⟩, a4⟩, a5⟩, m, a6, a7⟩
   · omega
   · exact ⟨by omega, a1, a2, by omega, by omega, a5, m, a6, a7⟩
 · rw [if_neg hb] at h
   simp at h
theorem isField_no {q : Int} (h : isField q = false) : (ppI q).1 = 0 ∨ 64 < q := by
 by_cases h64 : 64 < q
 · exact .inr h64
 · refine .inl ?_
   rw [isField, decide_eq_false_iff_not, split] at h
   by_cases hb : inB q 2 64 = true
   · obtain ⟨h2, _⟩ := inB_true.1 hb
     obtain ⟨n, rfl⟩ := Int.eq_ofNat_of_zero_le (show 0 ≤ q by omega)
     rw [if_pos hb, Int.toNat_natCast] at h
     have t1 := pp_table n (by omega)
     have t2 := size_table n (by omega) (by omega)
     rw [ppI, facs, if_pos (inB_yes (by omega) (by omega)), Int.toNat_natCast]
     rcases t1 with t1 | t1
     · rw [t1]
       simp only [sizeOk, Bool.or_eq_true, Bool.and_eq_true, decide_eq_true_eq, beq_iff_eq] at t2
       omega
     · omega
   · have h2 : q < 2 := by
       rcases Int.lt_or_le q 2 with h | h
       · exact h
       · exact absurd (inB_yes h (by omega)) hb
     rw [ppI, facs]
     by_cases h1 : inB q 1 1000000 = true
     · obtain ⟨h3, _⟩ := inB_true.1 h1
       obtain rfl : q = 1 := by omega
       rw [if_pos h1]
       decide
     · rw [if_neg h1]; rfl
theorem leastN_spec {q p : Int} {k : Nat} (h : SizeOk q p k) : leastN p k < 64 ∧ irr (polyAt p k (leastN p k)) p = true ∧ ∀ m, m < leastN p k → irr (polyAt p k m) p = false := by
 obtain ⟨n, hn, hi⟩ := h.some_
 unfold leastN
 cases hf : (List.range 64).find? (fun n => irr (polyAt p k n) p) with
 | none =>
  rw [List.find?_eq_none] at hf
  exact absurd hi (hf n (List.mem_range.2 hn))
 | some m =>
  rw [Option.getD_some]
  have h1 := List.find?_some hf
  have h2 := List.mem_of_find?_eq_some hf
  rw [List.mem_range] at h2
  refine ⟨h2, h1, fun j hj => ?_⟩
  rw [List.find?_range_eq_some] at hf
  have := hf.2.2 j hj
  simpa using this
end Go.Proofs.Ytpglmogoddgmoaa
namespace Go.Proofs.Ytpglmogoddgmoaa
open Go.RowKit
theorem MakeField_no (q : Int) (w : World) (h : isField q = false) :
    Calls Try.prog 86 #[.int .i64 q] w fun e w' => ∃ v, e = .returned (.tuple #[.agg #[.int .i64 0, .int .i64 0, v], .int .i64 2]) ∧ Own w' w.heap.size v [] ∧ Below w.heap.size w w' := by
 have hno := isField_no h
 generalize hP : (ppI q).1 = P at hno
 have HP := Lib.hid hP
 clear hP h
 go_enter Try.func86, Try.ntmps86
 go_wp2_with fail
 obtain ⟨w0, hw0⟩ : ∃ w0, w0 = w.alloc (.cells #[.int .i64 0, .int .i64 0, .slice none 0 0] 26) := ⟨_, rfl⟩
 have k0 : Blk w0 w.heap.size 26 #[.int .i64 0, .int .i64 0, .slice none 0 0] := by rw [hw0]; exact Blk.new _ _ _ rfl
 have hb0 : Below w.heap.size w w0 := by rw [hw0]; exact (Below.refl _ _).alloc (Nat.le_refl _) _
 rw [← hw0]
 clear hw0
 refine (PrimePower_any q w0).mono ?_
 rintro e w1 ⟨rfl, b1⟩
 rw [HP.out]
 have k1 := k0.below b1 k0.lt
 have hb1 := hb0.trans (b1.mono hb0.size)
 have f0 : w1.cell? ⟨w.heap.size, 0, none⟩ = some (.int .i64 0) := k1.cell 0
 have f1 : w1.cell? ⟨w.heap.size, 1, none⟩ = some (.int .i64 0) := k1.cell 1
 have f2 : w1.cell? ⟨w.heap.size, 2, none⟩ = some (.slice none 0 0) := k1.cell 2
 have g0 := k1.frozen 0
 have g1 := k1.frozen 1
 have g2 := k1.frozen 2
 by_cases hp0 : P = 0
 · have hp1 : (P == 0) = true := by simpa using hp0
   clear hp0 hno
   go_wp2
   refine bodyPost_ret (results_cell_tmp_row rfl _ _ w.heap.size 26 #[.int .i64 0, .int .i64 0, .slice none 0 0] _ rfl (((k1.set_ 0 _).set_ 1 _).set_ 2 _) Try.underlying26 rfl (by kernel_rfl)) rfl ⟨_, rfl, Own.nil _ _, ?_⟩
   exact ((hb1.setCell (Nat.le_refl _) _).setCell (Nat.le_refl _) _).setCell (Nat.le_refl _) _
 · have hp1 : (P == 0) = false := by simpa using hp0
   have hq : 64 < q := by omega
   clear hp0 hno
   go_wp2
   refine bodyPost_ret (results_cell_tmp_row rfl _ _ w.heap.size 26 #[.int .i64 0, .int .i64 0, .slice none 0 0] _ rfl (((k1.set_ 0 _).set_ 1 _).set_ 2 _) Try.underlying26 rfl (by kernel_rfl)) rfl ⟨_, rfl, Own.nil _ _, ?_⟩
   exact ((hb1.setCell (Nat.le_refl _) _).setCell (Nat.le_refl _) _).setCell (Nat.le_refl _) _
theorem polyAt_in {p : Int} (hp : 2 ≤ p) (k n : Nat) : InR p (polyAt p k n) := InR.app (dig_range (by omega) k) hp
theorem MakeField_yes (q P : Int) (K : Nat) (w : World) (h2 : 2 ≤ q) (h64 : q ≤ 64) (hpp : ppI q = (P, (K : Int))) (hs : SizeOk q P K) :
    Calls Try.prog 86 #[.int .i64 q] w fun e w' => ∃ v, e = .returned (.tuple #[.agg #[.int .i64 P, .int .i64 K, v], .int .i64 0]) ∧ Own w' w.heap.size v (polyAt P K (leastN P K)) ∧ Below w.heap.size w w' := by
 obtain ⟨hN1, hN2, hN3⟩ := leastN_spec hs
 have hPl := hs.lo
 have hPh := hs.hi
 have hK1 := hs.k1
 have hK6 := hs.k6
 have hpow := Lib.hid hs.pow
 have HPP := Lib.hid hpp
 generalize leastN P K = N at hN1 hN2 hN3
 have HN2 := Lib.hid hN2
 have HN3 := hide hN3
 have hp1 : (P == 0) = false := by rw [beq_eq_false_iff_ne]; omega
 clear hpp hN2 hN3 hs
 go_enter Try.func86, Try.ntmps86
 go_wp2_with fail
 obtain ⟨w0, hw0⟩ : ∃ w0, w0 = w.alloc (.cells #[.int .i64 0, .int .i64 0, .slice none 0 0] 26) := ⟨_, rfl⟩
 have k0 : Blk w0 w.heap.size 26 #[.int .i64 0, .int .i64 0, .slice none 0 0] := by rw [hw0]; exact Blk.new _ _ _ rfl
 have hb0 : Below w.heap.size w w0 := by rw [hw0]; exact (Below.refl _ _).alloc (Nat.le_refl _) _
 rw [← hw0]
 clear hw0
 refine (PrimePower_any q w0).mono ?_
 rintro e w1 ⟨rfl, b1⟩
 rw [HPP.out]
 have k1 := k0.below b1 k0.lt
 have hb1 := hb0.trans (b1.mono hb0.size)
 clear k0 b1 hb0
 go_wp2_with fail
 go_loopw [6] (fun nv wr => ∃ n : Nat, nv = .int .i64 n ∧ n ≤ N ∧ Blk wr w.heap.size 26 #[.int .i64 0, .int .i64 0, .slice none 0 0] ∧ Below w.heap.size w wr) (fun nv _ => N - (intOf nv).toNat)
 case atStart => exact ⟨0, rfl, Nat.zero_le _, k1, hb1⟩
 case round =>
  obtain ⟨n, rfl, hnN, kr, hb⟩ := hrel
  have klt := kr.lt
  go_wp2_with fail
  refine (digitsOf_any n P K _ (by omega) (by omega) (by omega) (by omega) (by omega)).mono ?_
  rintro e w2 ⟨v2, rfl, o2, b2⟩
  have hsz2 := b2.size
  go_wp2_with (at_builtin; refine wpList_append_ints rfl (.tmp 22) (.tmp 23) rfl _ v2 (dig n P K) [1] rfl (o2.alloc _) _ 1 1 rfl rfl (Rd.lit1 w2 _) (by rw [dig_len]; simp; omega) (by simp; omega) ?_; intro v3 w3 o3 g3 _)
  have b3 : Below wr.heap.size w2 w3 := Below.step ((Below.refl _ _).alloc hsz2 _) g3 (o2.alloc _) (Nat.le_refl _) (by simp; omega)
  have b13 := b2.trans b3
  obtain ⟨a3, c3, rfl, r3, _⟩ := o3.form
  have hpl := polyAt_len P K n
  refine (irreducible_any a3 c3 (polyAt P K n) P w3 r3 (by omega) (by omega) (polyAt_in hPl K n) (by rw [hpl]; omega) (by rw [hpl, Nat.add_sub_cancel, hpow.out]; exact h64)).mono ?_
  rintro e w4 ⟨rfl, b4⟩
  have b14 := b13.trans (b4.mono b13.size)
  have hb4 := hb.trans (b14.mono hb.size)
  have k4 := kr.below b14 klt
  have HPL := Lib.hid hpl
  clear kr hpl o3 r3 g3 o2 b3 b13 b2 b4
  by_cases hnn : n = N
  · subst hnn
    rw [HN2.out]
    go_wp2_with fail
    refine (digitsOf_any n P K _ (by omega) (by omega) (by omega) (by omega) (by omega)).mono ?_
    rintro e w5 ⟨v5, rfl, o5, b5⟩
    have hsz5 := b5.size
    go_wp2_with (at_builtin; refine wpList_append_ints rfl (.tmp 35) (.tmp 36) rfl _ v5 (dig n P K) [1] rfl (o5.alloc _) _ 1 1 rfl rfl (Rd.lit1 w5 _) (by rw [dig_len]; simp; omega) (by simp; omega) ?_; intro v6 w6 o6 g6 _; (have b6 : Below w4.heap.size w5 w6 := Below.step ((Below.refl _ _).alloc hsz5 _) g6 (o5.alloc _) (Nat.le_refl _) (by simp; omega)); obtain ⟨a6, c6, rfl, _, _⟩ := o6.form; have b46 := b5.trans b6; have k6 := k4.below b46 k4.lt; have f0 : w6.cell? ⟨w.heap.size, 0, none⟩ = some (.int .i64 0) := k6.cell 0; have f1 : w6.cell? ⟨w.heap.size, 1, none⟩ = some (.int .i64 0) := k6.cell 1; have f2 : w6.cell? ⟨w.heap.size, 2, none⟩ = some (.slice none 0 0) := k6.cell 2; have g0 := k6.frozen 0; have g1 := k6.frozen 1; have g2 := k6.frozen 2)
    have hb6 := hb4.trans (b46.mono hb4.size)
    have hwl := k4.lt
    have hla : (dig n P K ++ [1]).length = (dig n P K).length + 1 := by simp
    rw [hla] at o6
    refine bodyPost_ret (results_cell_tmp_row rfl _ _ w.heap.size 26 #[.int .i64 P, .int .i64 K, .slice a6 ((dig n P K).length + 1) c6] _ rfl (((k6.set_ 0 _).set_ 1 _).set_ 2 _) Try.underlying26 rfl (by kernel_rfl)) rfl ⟨_, rfl, ?_, ?_⟩
    · exact (((o6.storeBelow (by show w.heap.size < _; omega) _).storeBelow (by show w.heap.size < _; omega) _).storeBelow (by show w.heap.size < _; omega) _).mono (by omega)
    · exact ((hb6.setCell (Nat.le_refl _) _).setCell (Nat.le_refl _) _).setCell (Nat.le_refl _) _
  · have hf := (unhide HN3) n (by omega)
    rw [hf]
    go_wp2
    go_roundw
    case rel => exact ⟨n + 1, by go_num, by omega, k4, hb4⟩
    case measure => simp only [intOf]; omega
theorem MakeField_any (q : Int) (w : World) :
    Calls Try.prog 86 #[.int .i64 q] w fun e w' => ∃ v, e = .returned (.tuple #[.agg #[.int .i64 (mkF q).1, .int .i64 (mkF q).2.1, v], .int .i64 (mkF q).2.2.2]) ∧ Own w' w.heap.size v (mkF q).2.2.1 ∧ Below w.heap.size w w' := by
 by_cases h : isField q = true
 · obtain ⟨h2, h64, he, k, hk, hs⟩ := isField_size h
   have hm : mkF q = ((split q).1, (k : Int), polyAt (split q).1 k (leastN (split q).1 k), 0) := by rw [mkF, if_pos h, hk, Int.toNat_natCast]
   rw [hm]
   exact MakeField_yes q _ k w h2 h64 (by rw [← he, ← hk]) hs
 · have hm : mkF q = (0, 0, [], 2) := by rw [mkF, if_neg h]
   rw [hm]
   exact MakeField_no q w (by simpa using h)
end Go.Proofs.Ytpglmogoddgmoaa
namespace Go.Proofs.Ytpglmogoddgmoaa
open Go.RowKit
theorem mkF_code (q : Int) : (mkF q).2.2.2 = if isField q then 0 else 2 := by unfold mkF; split <;> rfl
theorem mkF_ok {q : Int} (h : isField q = true) : (mkF q).2.2.2 = 0 := by rw [mkF_code, if_pos h]
theorem mkF_bad {q : Int} (h : isField q = false) : (mkF q).2.2.2 = 2 := by rw [mkF_code, h]; rfl
end Go.Proofs.Ytpglmogoddgmoaa
namespace Go.Proofs.Ytpglmogoddgmoaa
open Go.RowKit
theorem Kp.alloc {a b : World} {lo hi : Nat} (h : Kp a b lo hi) (s : hi ≤ b.heap.size) (o : Obj) : Kp a (b.alloc o) lo hi := h.trans (Kp.below ((Below.refl _ _).alloc (Nat.le_refl _) o) s)
theorem Kp.drew {a b : World} {lo hi : Nat} (h : Kp a b lo hi) : Kp a b.drew lo hi := h
theorem Kp.grown {a b c : World} {lo hi : Nat} {row : Option Nat} (h : Kp a b lo hi) (hg : b.grownBy c row) (hne : ∀ k, row = some k → k < lo ∨ hi ≤ k) (s : hi ≤ b.heap.size) : Kp a c lo hi :=
 h.trans ⟨hg.size, fun g h1 h2 => hg.block g (by omega) (fun e => by have := hne g e.symm; omega)⟩
theorem Kp.setCell {a b : World} {lo hi : Nat} (h : Kp a b lo hi) {p : Addr} (hp : p.block < lo ∨ hi ≤ p.block) (v : Value) : Kp a (b.setCell p v) lo hi :=
 ⟨by have := h.1; simpa using this, fun g h1 h2 => (Below.heap_setCell b p v g (by omega)).trans (h.2 g h1 h2)⟩
section
variable {w : World} {B hi : Nat} {v r : Value} {xss : List (List Int)} {xs : List Int}
theorem run_append_row (hown : OwnSH w B hi v xss) (g1 : Nat) (hc : w.cell? ⟨g1, 0, none⟩ = some r) (hr : Own w hi r xs) (hB : B ≤ hi) (hhi : hi ≤ w.heap.size) (hl : xss.length + 1 ≤ 1073741824) (ty : TypeId) :
    ∃ v' w', (Builtin.append_ #[27, 27] ty #[v, .slice (some ⟨g1, 0, none⟩) 1 1]).run Try.prog w = .ok v' w' ∧ OwnS w' B v' (xss ++ [xs]) ∧ w.grownBy w' v.ownBlock ∧ (v'.ownBlock = v.ownBlock ∨ v'.ownBlock = some w.heap.size) := by
 obtain ⟨i0, hi0, hz0, hz1, hz2⟩ := info_parts Try.info_row
 obtain ⟨hxl, vs, hrow, hin, hv, hb⟩ := hown
 obtain ⟨ar, cr, er, _, _⟩ := hr.form
 obtain ⟨v', w', h1, h2, h3, _, h5⟩ := run_append_own_at (P := Try.prog) w B 27 ty 24 i0 (.slice none 0 0) 1 24 Try.underlying27 hi0 hz0 hz1 hz2 rfl (by omega) v xss.length vs hrow ⟨g1, 0, none⟩ 1 1 [r] rfl
  (fun j u hu => by
   have hj := (List.getElem?_eq_some_iff.1 hu).1
   simp at hj
   subst hj
   injection hu with hu
   subst hu
   rw [Addr.add_lit]; exact hc)
  (by intro u hu; rw [List.mem_singleton.1 hu, er]; rfl) (by unfold maxLen; omega) (by omega) (by omega)
 refine ⟨v', w', h1, ⟨by simpa using hl, vs ++ [r], by simpa using h2, by simp [hin.1], fun i x hx => ?_, fun i j x y k hij hx hy hk => ?_⟩, h3, h5⟩
 · have grow : ∀ (x : Value) (B' : Nat) (zs : List Int), Own w B' x zs → Own w' B' x zs := fun x B' zs ho => ho.grow h3 (by
     rcases hxb : x.ownBlock with _ | k
     · exact .inl rfl
     · exact .inr fun e => Own.notSliceBlock hrow ho k hxb e.symm)
   rcases Nat.lt_or_ge i vs.length with hi' | hi'
   · rw [List.getElem?_append_left hi'] at hx
     have e : nthL (xss ++ [xs]) i = nthL xss i := by rw [nthL, nthL, List.getD_eq_getElem?_getD, List.getElem?_append_left (by have := hin.1; omega), ← List.getD_eq_getElem?_getD]
     rw [e]
     exact grow _ _ _ (hin.2.1 i x hx)
   · have h2 := (List.getElem?_eq_some_iff.1 hx).1
     simp at h2
     obtain rfl : i = vs.length := by omega
     simp at hx
     subst hx
     have e : nthL (xss ++ [xs]) vs.length = xs := by simp [nthL, hin.1]
     rw [e]
     exact (grow _ _ _ hr).mono hB
 · have old : ∀ (i : Nat) (y : Value) (k : Nat), i < vs.length → (vs ++ [r])[i]? = some y → y.ownBlock = some k → k < hi := fun i y k hi' hy hk => by
     rw [List.getElem?_append_left hi'] at hy
     exact (hb i y hy k hk).2
   have new : ∀ (i : Nat) (y : Value) (k : Nat), ¬ i < vs.length → (vs ++ [r])[i]? = some y → i = vs.length ∧ (y.ownBlock = some k → hi ≤ k) := fun i y k hi' hy => by
    have hi2 := (List.getElem?_eq_some_iff.1 hy).1
    simp at hi2
    obtain rfl : i = vs.length := by omega
    simp at hy
    subst hy
    exact ⟨rfl, fun hk => (hr.lt k hk).1⟩
   intro hyk
   by_cases h1 : i < vs.length <;> by_cases h2 : j < vs.length
   · rw [List.getElem?_append_left h1] at hx
     rw [List.getElem?_append_left h2] at hy
     exact hin.2.2 i j x y k hij hx hy hk hyk
   · have a1 := old i x k h1 hx hk
     have a2 := (new j y k h2 hy).2 hyk
     omega
   · have a1 := old j y k h2 hy hyk
     have a2 := (new i x k h1 hx).2 hk
     omega
   · have a1 := (new i x k h1 hx).1
     have a2 := (new j y k h2 hy).1
     omega
theorem wp_append_row {o : Oper} {a : Act} {K : Act → World → Prop} {Q : Exit → Act → World → Prop} (s x : Operand)
    (ho : o.op = .call { callee := .builtin .append, args := #[s, x], argTypes := #[27, 27] })
    (hs : a.eval s = v) (hown : OwnSH w B hi v xss) (g1 : Nat) (hx : a.eval x = .slice (some ⟨g1, 0, none⟩) 1 1) (hc : w.cell? ⟨g1, 0, none⟩ = some r) (hr : Own w hi r xs) (hB : B ≤ hi) (hhi : hi ≤ w.heap.size) (hl : xss.length + 1 ≤ 1073741824)
    (h : ∀ v' w', OwnS w' B v' (xss ++ [xs]) → w.grownBy w' v.ownBlock → (v'.ownBlock = v.ownBlock ∨ v'.ownBlock = some w.heap.size) → K (a.put o.dst v') w') : Oper.wp Try.prog o a w K Q := by
 obtain ⟨v', w', hrun, h2, h3, h4⟩ := run_append_row hown g1 hc hr hB hhi hl o.type
 unfold Oper.wp execOp
 simp only [ho, resolve, invoke, builtin, Sem.run_bind, Sem.run_pure, Result.andThen_ok, List.map_toArray, List.map_cons, List.map_nil, hs, hx, hrun]
 exact h v' w' h2 h3 h4
theorem wpList_append_row {ops : Array Oper} {rest : List Oper} {o : Oper} {a : Act} {Q : Exit → Act → World → Prop} (hgd : o.guard = none) (s x : Operand)
    (ho : o.op = .call { callee := .builtin .append, args := #[s, x], argTypes := #[27, 27] })
    (hs : a.eval s = v) (hown : OwnSH w B hi v xss) (g1 : Nat) (hx : a.eval x = .slice (some ⟨g1, 0, none⟩) 1 1) (hc : w.cell? ⟨g1, 0, none⟩ = some r) (hr : Own w hi r xs) (hB : B ≤ hi) (hhi : hi ≤ w.heap.size) (hl : xss.length + 1 ≤ 1073741824)
    (h : ∀ v' w', OwnS w' B v' (xss ++ [xs]) → w.grownBy w' v.ownBlock → (v'.ownBlock = v.ownBlock ∨ v'.ownBlock = some w.heap.size) → wpList Try.prog ops Q rest (a.put o.dst v') w') :
    wpList Try.prog ops Q (o :: rest) a w :=
 wpList_plain hgd fun _ hK => wp_append_row s x ho hs hown g1 hx hc hr hB hhi hl fun v' w' h2 h3 h4 => hK _ _ (h v' w' h2 h3 h4)
theorem step_append_row {ops : Array Oper} {o : Oper} {a : Act} {K : Act → World → Prop} {Q : Exit → Act → World → Prop} {E : Prop} (hgd : o.guard = none) (s x : Operand)
    (ho : o.op = .call { callee := .builtin .append, args := #[s, x], argTypes := #[27, 27] })
    (hs : a.eval s = v) (hown : OwnSH w B hi v xss) (g1 : Nat) (hx : a.eval x = .slice (some ⟨g1, 0, none⟩) 1 1) (hc : w.cell? ⟨g1, 0, none⟩ = some r) (hr : Own w hi r xs) (hB : B ≤ hi) (hhi : hi ≤ w.heap.size) (hl : xss.length + 1 ≤ 1073741824)
    (h : ∀ v' w', OwnS w' B v' (xss ++ [xs]) → w.grownBy w' v.ownBlock → (v'.ownBlock = v.ownBlock ∨ v'.ownBlock = some w.heap.size) → K (a.put o.dst v') w') :
    if Region.wanted o (yielded ops a.tmps) = true then Oper.wp Try.prog o a w K Q else E := by
 have hw : Region.wanted o (yielded ops a.tmps) = true := by simp [Region.wanted, hgd]
 rw [if_pos hw]
 exact wp_append_row s x ho hs hown g1 hx hc hr hB hhi hl h
end
end Go.Proofs.Ytpglmogoddgmoaa
namespace Go.Proofs.Ytpglmogoddgmoaa
open Go.RowKit
section
variable {w : World} {B hi g n c : Nat} {v : Value} {yss : List (List Int)}
theorem OwnS.row (h : OwnS w B v yss) {i : Nat} (hi : i < yss.length) :
    ∃ a c, Own w B (.slice a (nthL yss i).length c) (nthL yss i) ∧
     (∀ b off m d, v = .slice (some ⟨b, off, none⟩) m d → w.cell? ⟨b, off + i, none⟩ = some (.slice a (nthL yss i).length c)) ∧
     ∀ w' ys, Own w' B (.slice a (nthL yss i).length c) ys → ys.length = (nthL yss i).length → w.grownBy w' (Value.ownBlock (.slice a (nthL yss i).length c)) → OwnS w' B v (yss.set i ys) := by
 obtain ⟨a, c, h1, h2, h3⟩ := h.toH.row hi
 exact ⟨a, c, h1.1, h2, fun w' ys ho hl hg => (h3 w' ys ⟨ho, h1.2⟩ hl hg).own⟩
theorem OwnS.at_ (h : OwnS w B v yss) (h0 : 0 < yss.length) : ∃ g c, v = .slice (some ⟨g, 0, none⟩) yss.length c ∧ B ≤ g ∧ g < w.heap.size ∧ yss.length ≤ c ∧ c ≤ 9223372036854775807 := by
 obtain ⟨hl, vs, hr, hin⟩ := h
 rcases hr.2 with ⟨_, h1⟩ | ⟨g, cap, cur, rfl, hb, hg, hn, hm, hs, ht⟩
 · omega
 · unfold maxLen at hm
   exact ⟨g, cap, rfl, hb, (Array.getElem?_eq_some_iff.1 hg).1, hn, by omega⟩
theorem OwnS.frozen (h : OwnS w B (.slice (some ⟨g, 0, none⟩) n c) yss) (j : Nat) : w.frozen? ⟨g, j, none⟩ = false := by
 have e := h.len
 obtain ⟨hl, vs, hr, hin⟩ := h
 subst e
 exact hr.frozenAt j
theorem row_grow {w' : World} {m : Nat} {vs : List Value} {x : Value} {xs : List Int} (hr : w.ownsRow B 24 1 v m vs) (hg : w.grownBy w' v.ownBlock) {B2 : Nat} (ho : Own w B2 x xs) : Own w' B2 x xs :=
 ho.grow hg (by
  rcases hxb : x.ownBlock with _ | k
  · exact .inl rfl
  · exact .inr fun e => Own.notSliceBlock hr ho k hxb e.symm)
theorem nthL_set_same {xss : List (List Int)} {i : Nat} (h : i < xss.length) (v : List Int) : nthL (xss.set i v) i = v := by simp [nthL, h]
theorem nthL_set_ne {xss : List (List Int)} {i j : Nat} (h : i ≠ j) (v : List Int) : nthL (xss.set i v) j = nthL xss j := by
 simp [nthL, List.getD_eq_getElem?_getD, List.getElem?_set_ne h]
theorem OwnSH.put (h : OwnSH w B hi (.slice (some ⟨g, 0, none⟩) n c) yss) {r : Value} {ys : List Int} (hr : Own w hi r ys) (hB : B ≤ hi) {j : Nat} (hj : j < yss.length) :
    OwnS (w.setCell ⟨g, j, none⟩ r) B (.slice (some ⟨g, 0, none⟩) n c) (yss.set j ys) ∧ w.grownBy (w.setCell ⟨g, j, none⟩ r) (some g) := by
 have e := h.own.len
 subst e
 obtain ⟨hl, vs, ho, hin, hv, hb⟩ := h
 obtain ⟨h1, h2⟩ := ho.stored j r
 have row : ∀ (x : Value) (B2 : Nat) (xs : List Int), Own w B2 x xs → Own (w.setCell ⟨g, j, none⟩ r) B2 x xs := fun x B2 xs hx => row_grow ho h2 hx
 refine ⟨⟨by simpa using hl, vs.set j r, by rw [List.length_set]; exact h1, by simp [hin.1], fun i x hx => ?_, fun i k x y b hik hx hy hxb hyb => ?_⟩, h2⟩
 · by_cases e : i = j
   · subst e
     rw [List.getElem?_set_self (by rw [hin.1]; exact hj)] at hx
     injection hx with hx
     subst hx
     rw [nthL_set_same hj]
     exact (row _ _ _ hr).mono hB
   · rw [List.getElem?_set_ne (Ne.symm e)] at hx
     rw [nthL_set_ne (Ne.symm e)]
     exact row _ _ _ (hin.2.1 i x hx)
 · have cas : ∀ (q : Nat) (z : Value), (vs.set j r)[q]? = some z → (q = j ∧ z = r) ∨ (q ≠ j ∧ vs[q]? = some z) := fun q z hz => by
     by_cases e : q = j
     · subst e
       rw [List.getElem?_set_self (by rw [hin.1]; exact hj)] at hz
       injection hz with hz
       exact .inl ⟨rfl, hz.symm⟩
     · rw [List.getElem?_set_ne (Ne.symm e)] at hz
       exact .inr ⟨e, hz⟩
   rcases cas i x hx with ⟨e1, e2⟩ | ⟨e1, e2⟩ <;> rcases cas k y hy with ⟨f1, f2⟩ | ⟨f1, f2⟩
   · omega
   · subst e2
     have a1 := (hr.lt b hxb).1
     have a2 := (hb k y f2 b hyb).2
     omega
   · subst f2
     have a1 := (hr.lt b hyb).1
     have a2 := (hb i x e2 b hxb).2
     omega
   · exact hin.2.2 i k x y b hik e2 f2 hxb hyb
theorem OwnS.swap (h : OwnS w B (.slice (some ⟨g, 0, none⟩) n c) yss) {i j : Nat} (hi : i < yss.length) (hj : j < yss.length) (hij : i ≠ j) {x y : Value} (hx : w.cell? ⟨g, i, none⟩ = some x) (hy : w.cell? ⟨g, j, none⟩ = some y) :
    OwnS ((w.setCell ⟨g, i, none⟩ y).setCell ⟨g, j, none⟩ x) B (.slice (some ⟨g, 0, none⟩) n c) ((yss.set i (nthL yss j)).set j (nthL yss i)) ∧ w.grownBy ((w.setCell ⟨g, i, none⟩ y).setCell ⟨g, j, none⟩ x) (some g) := by
 have e := h.len
 subst e
 obtain ⟨hl, vs, ho, hin⟩ := h
 have vx : vs[i]? = some x := by rw [← ho.cellAt i (by omega)]; exact hx
 have vy : vs[j]? = some y := by rw [← ho.cellAt j (by omega)]; exact hy
 obtain ⟨h1, h2⟩ := ho.stored i y
 obtain ⟨h3, h4⟩ := h1.stored j x
 have row : ∀ (z : Value) (B2 : Nat) (xs : List Int), Own w B2 z xs → Own ((w.setCell ⟨g, i, none⟩ y).setCell ⟨g, j, none⟩ x) B2 z xs := fun z B2 xs hz => row_grow h1 h4 (row_grow ho h2 hz)
 have hil : i < vs.length := by rw [hin.1]; exact hi
 have hjl : j < vs.length := by rw [hin.1]; exact hj
 -- which row stands where
 have cas : ∀ (q : Nat) (z : Value), ((vs.set i y).set j x)[q]? = some z → ∃ q', vs[q']? = some z ∧ ((q = j ∧ q' = i) ∨ (q = i ∧ q ≠ j ∧ q' = j) ∨ (q ≠ i ∧ q ≠ j ∧ q' = q)) := fun q z hz => by
  by_cases e : q = j
  · subst e
    rw [List.getElem?_set_self (by rw [List.length_set]; exact hjl)] at hz
    injection hz with hz
    subst hz
    exact ⟨i, vx, .inl ⟨rfl, rfl⟩⟩
  · rw [List.getElem?_set_ne (Ne.symm e)] at hz
    by_cases e2 : q = i
    · subst e2
      rw [List.getElem?_set_self hil] at hz
      injection hz with hz
      subst hz
      exact ⟨j, vy, .inr (.inl ⟨rfl, e, rfl⟩)⟩
    · rw [List.getElem?_set_ne (Ne.symm e2)] at hz
      exact ⟨q, hz, .inr (.inr ⟨e2, e, rfl⟩)⟩
 refine ⟨⟨by simpa using hl, (vs.set i y).set j x, by simpa using h3, by simp [hin.1], fun q z hz => ?_, fun q k z u b hqk hz hu hzb hub => ?_⟩, grown_trans_row h2 h4⟩
 · obtain ⟨q', hq, hc⟩ := cas q z hz
   have o := row _ _ _ (hin.2.1 q' z hq)
   rcases hc with ⟨rfl, rfl⟩ | ⟨rfl, hne, rfl⟩ | ⟨h1, h2, rfl⟩
   · rw [nthL_set_same (by rw [List.length_set]; exact hj)]; exact o
   · rw [nthL_set_ne (Ne.symm hne), nthL_set_same hi]; exact o
   · rw [nthL_set_ne (Ne.symm h2), nthL_set_ne (Ne.symm h1)]; exact o
 · obtain ⟨q', hq, hc⟩ := cas q z hz
   obtain ⟨k', hk, hd⟩ := cas k u hu
   exact hin.2.2 q' k' z u b (by omega) hq hk hzb hub
theorem OwnSH.put2 (h : OwnSH w B hi (.slice (some ⟨g, 0, none⟩) n c) yss) {r y : Value} {ys : List Int} (hr : Own w hi r ys) (hB : B ≤ hi) {i t : Nat} (hi' : i < yss.length) (ht : t < yss.length) (hy : w.cell? ⟨g, t, none⟩ = some y) :
    OwnS ((w.setCell ⟨g, i, none⟩ y).setCell ⟨g, t, none⟩ r) B (.slice (some ⟨g, 0, none⟩) n c) ((yss.set i (nthL yss t)).set t ys) ∧ w.grownBy ((w.setCell ⟨g, i, none⟩ y).setCell ⟨g, t, none⟩ r) (some g) := by
 have e := h.own.len
 subst e
 obtain ⟨hl, vs, ho, hin, hv, hb⟩ := h
 have vy : vs[t]? = some y := by rw [← ho.cellAt t (by omega)]; exact hy
 obtain ⟨h1, h2⟩ := ho.stored i y
 obtain ⟨h3, h4⟩ := h1.stored t r
 have row : ∀ (z : Value) (B2 : Nat) (xs : List Int), Own w B2 z xs → Own ((w.setCell ⟨g, i, none⟩ y).setCell ⟨g, t, none⟩ r) B2 z xs := fun z B2 xs hz => row_grow h1 h4 (row_grow ho h2 hz)
 have hil : i < vs.length := by rw [hin.1]; exact hi'
 have htl : t < vs.length := by rw [hin.1]; exact ht
 have cas : ∀ (q : Nat) (z : Value), ((vs.set i y).set t r)[q]? = some z → (q = t ∧ z = r) ∨ ∃ q', vs[q']? = some z ∧ q ≠ t ∧ ((q = i ∧ q' = t) ∨ (q ≠ i ∧ q' = q)) := fun q z hz => by
  by_cases e : q = t
  · subst e
    rw [List.getElem?_set_self (by rw [List.length_set]; exact htl)] at hz
    injection hz with hz
    exact .inl ⟨rfl, hz.symm⟩
  · rw [List.getElem?_set_ne (Ne.symm e)] at hz
    by_cases e2 : q = i
    · subst e2
      rw [List.getElem?_set_self hil] at hz
      injection hz with hz
      subst hz
      exact .inr ⟨t, vy, e, .inl ⟨rfl, rfl⟩⟩
    · rw [List.getElem?_set_ne (Ne.symm e2)] at hz
      exact .inr ⟨q, hz, e, .inr ⟨e2, rfl⟩⟩
 refine ⟨⟨by simpa using hl, (vs.set i y).set t r, by simpa using h3, by simp [hin.1], fun q z hz => ?_, fun q k z u b hqk hz hu hzb hub => ?_⟩, grown_trans_row h2 h4⟩
 · rcases cas q z hz with ⟨rfl, rfl⟩ | ⟨q', hq, hne, hc⟩
   · rw [nthL_set_same (by rw [List.length_set]; exact ht)]
     exact (row _ _ _ hr).mono hB
   · have o := row _ _ _ (hin.2.1 q' z hq)
     rcases hc with ⟨rfl, rfl⟩ | ⟨h1, rfl⟩
     · rw [nthL_set_ne (Ne.symm hne), nthL_set_same hi']; exact o
     · rw [nthL_set_ne (Ne.symm hne), nthL_set_ne (Ne.symm h1)]; exact o
 · rcases cas q z hz with ⟨rfl, rfl⟩ | ⟨q', hq, hne, hc⟩ <;> rcases cas k u hu with ⟨rfl, rfl⟩ | ⟨k', hk, hke, hd⟩
   · omega
   · have a1 := (hr.lt b hzb).1
     have a2 := (hb k' u hk b hub).2
     omega
   · have a1 := (hr.lt b hub).1
     have a2 := (hb q' z hq b hzb).2
     omega
   · exact hin.2.2 q' k' z u b (by omega) hq hk hzb hub
theorem OwnS.inn (h : OwnS w B v yss) : In v B w.heap.size := by
 obtain ⟨_, vs, hr, _⟩ := h
 exact hr.lt
theorem Below.stepS {C : Nat} {a w' : World} (h : Below C a w) (hg : w.grownBy w' v.ownBlock) (ho : OwnS w B v yss) (hBo : C ≤ B) (hB : C ≤ w.heap.size) : Below C a w' :=
 h.grown hg hB (fun k hk => by have := (ho.inn k hk).1; omega)
theorem OwnS.take (h : OwnS w B (.slice (some ⟨g, 0, none⟩) n c) yss) {m : Nat} (hm : m ≤ n) : OwnS w B (.slice (some ⟨g, 0, none⟩) m c) (yss.take m) := by
 have e := h.len
 subst e
 obtain ⟨hl, vs, ⟨h1, h3⟩, hin⟩ := h
 have hml : (yss.take m).length = m := by rw [List.length_take]; omega
 refine ⟨by rw [hml]; omega, vs.take m, ?_, by rw [List.length_take, hml, hin.1]; omega, fun i x hx => ?_, fun i j x y b hij hx hy hxb => ?_⟩
 · rw [hml]
   refine ⟨by rw [List.length_take, hin.1]; omega, .inr ?_⟩
   rcases h3 with ⟨e, _⟩ | ⟨g', cap, cur, e, hb, hg, hn, hcm, hs, ht⟩
   · cases e
   · injection e with e1 e2 e3
     injection e1 with e1
     injection e1 with e1
     subst e1
     subst e3
     refine ⟨g, c, cur, rfl, hb, hg, by omega, hcm, hs, ?_⟩
     rw [← ht, List.take_take]
     congr 1
     omega
 · have hi : i < m := by
     have := (List.getElem?_eq_some_iff.1 hx).1
     rw [List.length_take] at this
     omega
   rw [List.getElem?_take_of_lt hi] at hx
   rw [nthL_take hi]
   exact hin.2.1 i x hx
 · have lt : ∀ (q : Nat) (z : Value), (vs.take m)[q]? = some z → vs[q]? = some z := fun q z hz => by
     have hq : q < m := by
      have := (List.getElem?_eq_some_iff.1 hz).1
      rw [List.length_take] at this
      omega
     rwa [List.getElem?_take_of_lt hq] at hz
   exact hin.2.2 i j x y b hij (lt i x hx) (lt j y hy) hxb
end
end Go.Proofs.Ytpglmogoddgmoaa
namespace Go.Proofs.Ytpglmogoddgmoaa
open Go.RowKit
section
variable {w : World} {B : Nat} {v : Value} {xs ys : List Int}
theorem run_append_ints (hown : Own w B v xs) (ad : Option Addr) (m c : Nat) (hm : m = ys.length) (hr : Rd w ad ys) (hl : xs.length + ys.length ≤ 1073741824) (hB : B ≤ w.heap.size) (ty : TypeId) :
    ∃ v' w', (Builtin.append_ #[24, 24] ty #[v, .slice ad m c]).run Try.prog w = .ok v' w' ∧ Own w' B v' (xs ++ ys) ∧ w.grownBy w' v.ownBlock ∧ (v'.ownBlock = v.ownBlock ∨ v'.ownBlock = some w.heap.size) := by
 obtain ⟨i0, hi0, hz0, hz1, hz2⟩ := info_parts Try.info_i64
 rcases Nat.eq_zero_or_pos ys.length with h0 | h0
 · have hy : ys = [] := List.eq_nil_of_length_eq_zero h0
   subst hy
   simp only [List.length_nil] at hm
   subst hm
   refine ⟨v, w, ?_, by simpa using hown, World.grownBy.refl w _, .inl rfl⟩
   rcases hown.2.2 with ⟨rfl, h0⟩ | ⟨g, cap, cur, rfl, _, _, hnc, _⟩
   · cases ad <;> simp [Builtin.append_, run_underlying Try.underlying24, sizeOf, typeInfo, hi0, Builtin.lenOf, Builtin.firstCells, loadCells, loadCellsFrom]
   · cases ad <;> simp [Builtin.append_, run_underlying Try.underlying24, sizeOf, typeInfo, hi0, Builtin.lenOf, Builtin.firstCells, hnc, storeCells, loadCells, loadCellsFrom]
 · obtain ⟨b, off, rfl, _, hc⟩ := hr.at_ h0
   obtain ⟨v', w', h1, h2, h3, _, h5⟩ := run_append_own_at (P := Try.prog) w B 24 ty 2 i0 (.int .i64 0) 1 8 Try.underlying24 hi0 hz0 hz1 hz2 rfl (by omega) v xs.length (xs.map (Value.int .i64)) hown.2 ⟨b, off, none⟩ m c (ys.map (Value.int .i64)) (by simp [hm])
    (fun j u hu => by
     have hj : j < ys.length := by
      have := (List.getElem?_eq_some_iff.1 hu).1
      simpa using this
     rw [Addr.add_lit, hc j hj, ← hu, List.getElem?_map, List.getElem?_eq_getElem hj, nth_lt hj]; rfl)
    (ints_oneCell _ _) (by unfold maxLen; omega) (by omega) hB
   exact ⟨v', w', h1, ⟨by simpa using hl, by rw [List.map_append, List.length_append, ← hm]; exact h2⟩, h3, h5⟩
theorem wp_append_ints {o : Oper} {a : Act} {K : Act → World → Prop} {Q : Exit → Act → World → Prop} (s x : Operand)
    (ho : o.op = .call { callee := .builtin .append, args := #[s, x], argTypes := #[24, 24] })
    (hs : a.eval s = v) (hown : Own w B v xs) (ad : Option Addr) (m c : Nat) (hx : a.eval x = .slice ad m c) (hm : m = ys.length) (hr : Rd w ad ys) (hl : xs.length + ys.length ≤ 1073741824) (hB : B ≤ w.heap.size)
    (h : ∀ v' w', Own w' B v' (xs ++ ys) → w.grownBy w' v.ownBlock → (v'.ownBlock = v.ownBlock ∨ v'.ownBlock = some w.heap.size) → K (a.put o.dst v') w') : Oper.wp Try.prog o a w K Q := by
 obtain ⟨v', w', hrun, h2, h3, h4⟩ := run_append_ints hown ad m c hm hr hl hB o.type
 unfold Oper.wp execOp
 simp only [ho, resolve, invoke, builtin, Sem.run_bind, Sem.run_pure, Result.andThen_ok, List.map_toArray, List.map_cons, List.map_nil, hs, hx, hrun]
 exact h v' w' h2 h3 h4
theorem step_append_ints {ops : Array Oper} {o : Oper} {a : Act} {K : Act → World → Prop} {Q : Exit → Act → World → Prop} {E : Prop} (hgd : o.guard = none) (s x : Operand)
    (ho : o.op = .call { callee := .builtin .append, args := #[s, x], argTypes := #[24, 24] })
    (hs : a.eval s = v) (hown : Own w B v xs) (ad : Option Addr) (m c : Nat) (hx : a.eval x = .slice ad m c) (hm : m = ys.length) (hr : Rd w ad ys) (hl : xs.length + ys.length ≤ 1073741824) (hB : B ≤ w.heap.size)
    (h : ∀ v' w', Own w' B v' (xs ++ ys) → w.grownBy w' v.ownBlock → (v'.ownBlock = v.ownBlock ∨ v'.ownBlock = some w.heap.size) → K (a.put o.dst v') w') :
    if Region.wanted o (yielded ops a.tmps) = true then Oper.wp Try.prog o a w K Q else E := by
 have hw : Region.wanted o (yielded ops a.tmps) = true := by simp [Region.wanted, hgd]
 rw [if_pos hw]
 exact wp_append_ints s x ho hs hown ad m c hx hm hr hl hB h
end
end Go.Proofs.Ytpglmogoddgmoaa
namespace Go.Proofs.Ytpglmogoddgmoaa
open Go.RowKit
theorem OwnSH.belw {w w' : World} {B hi : Nat} {v : Value} {xss : List (List Int)} (h : OwnSH w B hi v xss) (hb : Below w.heap.size w w') (hh : hi ≤ w.heap.size) : OwnSH w' B hi v xss := h.kp (Kp.below hb hh)
theorem copyLists_any (a : Option Addr) (c : Nat) (xss : List (List Int)) (w : World) (hx : RdS w a xss) :
    Calls Try.prog 59 #[.slice a xss.length c] w fun e w' => ∃ v, e = .returned v ∧ OwnS w' w.heap.size v xss ∧ Below w.heap.size w w' := by
 have hxl := hx.len
 go_enter Try.func59, Try.ntmps59
 go_wp2
 go_loopw [3, 8] (fun v iv wr => ∃ (k : Nat), iv = .int .i64 k ∧ k ≤ xss.length ∧ Hid (OwnS wr w.heap.size v (xss.take k)) ∧ Below w.heap.size w wr) (fun _ iv _ => xss.length - (intOf iv).toNat)
 case atStart => exact ⟨0, rfl, Nat.zero_le _, OwnS.nil _ _, Below.refl _ _⟩
 case round =>
  obtain ⟨k, rfl, hk, ho, hb⟩ := hrel
  have hsz := hb.size
  by_cases hkl : k < xss.length
  · obtain ⟨b1, o1, rfl, _, hc⟩ := (hx.below hb).at_ (by omega)
    obtain ⟨ai, ci, h1, hr⟩ := hc k hkl
    have htk := take_nthL hkl
    have htl : (xss.take k).length = k := by rw [List.length_take]; omega
    generalize nthL xss k = row at h1 hr htk
    have HTK := Lib.hid htk
    have HTL := Lib.hid htl
    clear hc htk htl
    go_wp2_with fail
    refine (clone_any ai ci row wr hr).mono ?_
    rintro e w1 ⟨v1, rfl, o1, b1⟩
    obtain ⟨a1, c1, rfl, _, _⟩ := o1.form
    have hH := ho.out.toH.belw b1 (Nat.le_refl _)
    have hs1 := b1.size
    have hb1 := hb.trans (b1.mono hsz)
    go_wp2_with (at_builtin; refine wpList_append_row rfl (.tmp 12) (.tmp 15) rfl (v := u3) rfl (hH.belw ((Below.refl _ _).alloc (Nat.le_refl _) _) hs1) _ rfl ((Blk.new w1 24 #[.slice a1 row.length c1] rfl).cell 0) (o1.alloc _) hsz (by simp; omega) (by rw [HTL.out]; omega) ?_; intro v2 w2 o2 g2 _)
    go_roundw
    case rel =>
     refine ⟨k + 1, by go_num, by omega, ?_, Below.stepS (hb1.alloc (by omega) _) g2 (hH.belw ((Below.refl _ _).alloc (Nat.le_refl _) _) hs1).own (Nat.le_refl _) (by simp; omega)⟩
     show OwnS _ _ _ _
     rw [HTK.out]
     exact o2
    case measure => simp only [intOf]; omega
  · have hke : k = xss.length := by omega
    have HE := Lib.hid hke
    clear hke
    go_wp2
    go_ret
    exact ⟨_, rfl, by have o := ho.out; rw [HE.out, List.take_length] at o; exact o, hb⟩
theorem l17Own_any (a : Option Addr) (c : Nat) (xss : List (List Int)) (w : World) (hx : RdS w a xss) :
    Calls Try.prog 196 #[.slice a xss.length c] w fun e w' => ∃ v, e = .returned v ∧ OwnS w' w.heap.size v xss ∧ Below w.heap.size w w' := by
 have hxl := hx.len
 go_enter Try.func196, Try.ntmps196
 go_wp2
 go_loopw [3, 4] (fun v iv wr => ∃ (k : Nat), iv = .int .i64 k ∧ k ≤ xss.length ∧ Hid (OwnS wr w.heap.size v (xss.take k)) ∧ Below w.heap.size w wr) (fun _ iv _ => xss.length - (intOf iv).toNat)
 case atStart => exact ⟨0, rfl, Nat.zero_le _, OwnS.empty w (Nat.le_refl _), (Below.refl _ _).alloc (Nat.le_refl _) _⟩
 case round =>
  obtain ⟨k, rfl, hk, ho, hb⟩ := hrel
  have hsz := hb.size
  by_cases hkl : k < xss.length
  · obtain ⟨b1, o1, rfl, _, hc⟩ := (hx.below hb).at_ (by omega)
    obtain ⟨ai, ci, h1, hr⟩ := hc k hkl
    have htk := take_nthL hkl
    have htl : (xss.take k).length = k := by rw [List.length_take]; omega
    generalize nthL xss k = row at h1 hr htk
    have HTK := Lib.hid htk
    have HTL := Lib.hid htl
    clear hc htk htl
    go_wp2_with fail
    refine (l00Own_any ai ci row wr hr).mono ?_
    rintro e w1 ⟨v1, rfl, o1, b1⟩
    obtain ⟨a1, c1, rfl, _, _⟩ := o1.form
    have hH := ho.out.toH.belw b1 (Nat.le_refl _)
    have hs1 := b1.size
    have hb1 := hb.trans (b1.mono hsz)
    go_wp2_with (at_builtin; refine wpList_append_row rfl (.tmp 12) (.tmp 18) rfl (v := u3) rfl (hH.belw ((Below.refl _ _).alloc (Nat.le_refl _) _) hs1) _ rfl ((Blk.new w1 24 #[.slice a1 row.length c1] rfl).cell 0) (o1.alloc _) hsz (by simp; omega) (by rw [HTL.out]; omega) ?_; intro v2 w2 o2 g2 _)
    go_roundw
    case rel =>
     refine ⟨k + 1, by go_num, by omega, ?_, Below.stepS (hb1.alloc (by omega) _) g2 (hH.belw ((Below.refl _ _).alloc (Nat.le_refl _) _) hs1).own (Nat.le_refl _) (by simp; omega)⟩
     show OwnS _ _ _ _
     rw [HTK.out]
     exact o2
    case measure => simp only [intOf]; omega
  · have hke : k = xss.length := by omega
    have HE := Lib.hid hke
    clear hke
    go_wp2
    go_ret
    exact ⟨_, rfl, by have o := ho.out; rw [HE.out, List.take_length] at o; exact o, hb⟩
end Go.Proofs.Ytpglmogoddgmoaa
namespace Go.Proofs.Ytpglmogoddgmoaa
open Go.RowKit
def OwnSQ (w : World) (B : Nat) (v : Value) (xss : List (List Int)) (Q : Value → Prop) : Prop :=
 xss.length ≤ 1073741824 ∧ ∃ vs : List Value, w.ownsRow B 24 1 v xss.length vs ∧ Inner w B vs xss ∧ ∀ (i : Nat) (x : Value), vs[i]? = some x → Q x
section
variable {w w' : World} {B hi g n c : Nat} {v : Value} {yss : List (List Int)} {Q Q' : Value → Prop}
theorem OwnSQ.own (h : OwnSQ w B v yss Q) : OwnS w B v yss := by
 obtain ⟨hl, vs, hr, hin, _⟩ := h
 exact ⟨hl, vs, hr, hin⟩
theorem OwnSQ.imp (h : OwnSQ w B v yss Q) (hq : ∀ x, (∀ k, x.ownBlock = some k → k < w.heap.size) → Q x → Q' x) : OwnSQ w B v yss Q' := by
 obtain ⟨hl, vs, hr, hin, hQ⟩ := h
 exact ⟨hl, vs, hr, hin, fun i x hx => hq x (fun k hk => ((hin.2.1 i x hx).lt k hk).2) (hQ i x hx)⟩
theorem OwnS.toQ (h : OwnS w B v yss) (hq : ∀ x, (∀ k, x.ownBlock = some k → B ≤ k ∧ k < w.heap.size) → Q x) : OwnSQ w B v yss Q := by
 obtain ⟨hl, vs, hr, hin⟩ := h
 exact ⟨hl, vs, hr, hin, fun i x hx => hq x (fun k hk => (hin.2.1 i x hx).lt k hk)⟩
theorem OwnSQ.below (h : OwnSQ w B v yss Q) (hb : Below w.heap.size w w') : OwnSQ w' B v yss Q := by
 obtain ⟨hl, vs, hr, hin, hQ⟩ := h
 exact ⟨hl, vs, ownsRow_below hr hb (Nat.le_refl _), hin.below hb (Nat.le_refl _), hQ⟩
theorem OwnSQ.grow (h : OwnSQ w B v yss Q) {u : Value} {B' : Nat} {us : List Int} (hu : Own w B' u us) (hg : w.grownBy w' u.ownBlock) (hq : ∀ x, Q x → ∀ k, x.ownBlock = some k → u.ownBlock ≠ some k) : OwnSQ w' B v yss Q := by
 obtain ⟨hl, vs, hr, hin, hQ⟩ := h
 refine ⟨hl, vs, hr.kept hg ?_, ⟨hin.1, fun i x hx => (hin.2.1 i x hx).grow hg ?_, hin.2.2⟩, hQ⟩
 · rcases hub : u.ownBlock with _ | k
   · rcases hv : v.ownBlock with _ | k
     · exact .inl rfl
     · exact .inr (by simp)
   · refine .inr fun e => ?_
     exact Own.notSliceBlock hr hu k hub e
 · rcases hxb : x.ownBlock with _ | k
   · exact .inl rfl
   · exact .inr fun e => hq x (hQ i x hx) k hxb e.symm
theorem OwnSQ.row (h : OwnSQ w B v yss Q) {i : Nat} (hi : i < yss.length) :
    ∃ a c, Own w B (.slice a (nthL yss i).length c) (nthL yss i) ∧ Q (.slice a (nthL yss i).length c) ∧
     (∀ b off m d, v = .slice (some ⟨b, off, none⟩) m d → w.cell? ⟨b, off + i, none⟩ = some (.slice a (nthL yss i).length c)) ∧
     (∀ w' ys, Own w' B (.slice a (nthL yss i).length c) ys → ys.length = (nthL yss i).length → w.grownBy w' (Value.ownBlock (.slice a (nthL yss i).length c)) → OwnSQ w' B v (yss.set i ys) Q) ∧
     (∀ j a' c', j < yss.length → j ≠ i → (∀ b off m d, v = .slice (some ⟨b, off, none⟩) m d → w.cell? ⟨b, off + j, none⟩ = some (.slice a' (nthL yss j).length c')) → v.ownBlock ≠ none → ∀ k, Value.ownBlock (.slice a' (nthL yss j).length c') = some k → Value.ownBlock (.slice a (nthL yss i).length c) ≠ some k) := by
 obtain ⟨hl, vs, hr, hin, hQ⟩ := h
 have hil : i < vs.length := by rw [hin.1]; exact hi
 have hgi := List.getElem?_eq_getElem hil
 have ho := hin.2.1 i _ hgi
 obtain ⟨a, c, e, _, _⟩ := ho.form
 rw [e] at ho hgi
 have hne : ∀ k, Value.ownBlock (.slice a (nthL yss i).length c) = some k → v.ownBlock ≠ some k := Own.notSliceBlock hr ho
 have cellv : ∀ (q : Nat) (b off m d : Nat), q < vs.length → v = .slice (some ⟨b, off, none⟩) m d → w.cell? ⟨b, off + q, none⟩ = vs[q]? := by
  intro q b off m d hq hvv
  have hr2 := hr
  rcases hr.2 with ⟨rfl, _⟩ | ⟨g, cap, cur, rfl, _⟩
  · injection hvv with h0 _ _; cases h0
  · injection hvv with h0 _ _
    injection h0 with h0
    injection h0 with h1 h2
    subst h1; subst h2
    rw [Nat.zero_add]
    exact hr2.cellAt q (by have := hin.1; omega)
 refine ⟨a, c, ho, hQ i _ hgi, fun b off m d hvv => by rw [cellv i b off m d hil hvv, hgi], ?_, ?_⟩
 · intro w' ys ho' hyl hg
   refine ⟨by simpa using hl, vs, ?_, ⟨by simpa using hin.1, fun j x hx => ?_, hin.2.2⟩, hQ⟩
   · rw [List.length_set]
     refine hr.kept hg ?_
     rcases hx : v.ownBlock with _ | k
     · exact .inl rfl
     · exact .inr fun e2 => hne k e2.symm hx
   · by_cases hj : j = i
     · subst hj
       rw [hgi] at hx
       injection hx with hx
       subst hx
       rw [nthL_set_same hi]
       exact ho'
     · rw [nthL_set_ne (Ne.symm hj)]
       refine (hin.2.1 j x hx).grow hg ?_
       rcases hxb : x.ownBlock with _ | k
       · exact .inl rfl
       · exact .inr fun e2 => hin.2.2 i j _ _ k (Ne.symm hj) hgi hx e2.symm hxb
 · intro j a' c' hj hji hcell hv0 k hk hk2
   have hjl : j < vs.length := by rw [hin.1]; exact hj
   rcases hr.2 with ⟨rfl, h0⟩ | ⟨g, cap, cur, rfl, _⟩
   · exact hv0 rfl
   · have h1 := hcell g 0 _ _ rfl
     rw [cellv j g 0 _ _ hjl rfl] at h1
     exact hin.2.2 i j _ _ k (Ne.symm hji) hgi h1 hk2 hk
theorem OwnSQ.put (h : OwnSQ w B (.slice (some ⟨g, 0, none⟩) n c) yss Q) {r : Value} {ys : List Int} (hr : Own w hi r ys) (hB : B ≤ hi)
    (hlow : ∀ x, Q x → ∀ k, x.ownBlock = some k → k < hi) (hq : Q' r) (hQQ : ∀ x, Q x → Q' x) {j : Nat} (hj : j < yss.length) :
    OwnSQ (w.setCell ⟨g, j, none⟩ r) B (.slice (some ⟨g, 0, none⟩) n c) (yss.set j ys) Q' ∧ w.grownBy (w.setCell ⟨g, j, none⟩ r) (some g) := by
 have e := h.own.len
 subst e
 obtain ⟨hl, vs, ho, hin, hQ⟩ := h
 obtain ⟨h1, h2⟩ := ho.stored j r
 have row : ∀ (x : Value) (B2 : Nat) (xs : List Int), Own w B2 x xs → Own (w.setCell ⟨g, j, none⟩ r) B2 x xs := fun x B2 xs hx => row_grow ho h2 hx
 have cas : ∀ (q : Nat) (z : Value), (vs.set j r)[q]? = some z → (q = j ∧ z = r) ∨ (q ≠ j ∧ vs[q]? = some z) := fun q z hz => by
  by_cases e : q = j
  · subst e
    rw [List.getElem?_set_self (by rw [hin.1]; exact hj)] at hz
    injection hz with hz
    exact .inl ⟨rfl, hz.symm⟩
  · rw [List.getElem?_set_ne (Ne.symm e)] at hz
    exact .inr ⟨e, hz⟩
 refine ⟨⟨by simpa using hl, vs.set j r, by rw [List.length_set]; exact h1, ⟨by simp [hin.1], fun i x hx => ?_, fun i k x y b hik hx hy hxb hyb => ?_⟩, fun i x hx => ?_⟩, h2⟩
 · rcases cas i x hx with ⟨rfl, rfl⟩ | ⟨e1, e2⟩
   · rw [nthL_set_same hj]; exact (row _ _ _ hr).mono hB
   · rw [nthL_set_ne (Ne.symm e1)]; exact row _ _ _ (hin.2.1 i x e2)
 · rcases cas i x hx with ⟨e1, e2⟩ | ⟨e1, e2⟩ <;> rcases cas k y hy with ⟨f1, f2⟩ | ⟨f1, f2⟩
   · omega
   · subst e2
     have a1 := (hr.lt b hxb).1
     have a2 := hlow y (hQ k y f2) b hyb
     omega
   · subst f2
     have a1 := (hr.lt b hyb).1
     have a2 := hlow x (hQ i x e2) b hxb
     omega
   · exact hin.2.2 i k x y b hik e2 f2 hxb hyb
 · rcases cas i x hx with ⟨rfl, rfl⟩ | ⟨e1, e2⟩
   · exact hq
   · exact hQQ x (hQ i x e2)
theorem OwnSQ.put2 (h : OwnSQ w B (.slice (some ⟨g, 0, none⟩) n c) yss Q) {r y : Value} {ys : List Int} (hr : Own w hi r ys) (hB : B ≤ hi)
    (hlow : ∀ x, Q x → ∀ k, x.ownBlock = some k → k < hi) (hq : Q' r) (hQQ : ∀ x, Q x → Q' x) {i t : Nat} (hi' : i < yss.length) (ht : t < yss.length) (hy : w.cell? ⟨g, t, none⟩ = some y) :
    OwnSQ ((w.setCell ⟨g, i, none⟩ y).setCell ⟨g, t, none⟩ r) B (.slice (some ⟨g, 0, none⟩) n c) ((yss.set i (nthL yss t)).set t ys) Q' ∧ w.grownBy ((w.setCell ⟨g, i, none⟩ y).setCell ⟨g, t, none⟩ r) (some g) := by
 have e := h.own.len
 subst e
 obtain ⟨hl, vs, ho, hin, hQ⟩ := h
 have vy : vs[t]? = some y := by rw [← ho.cellAt t (by omega)]; exact hy
 obtain ⟨h1, h2⟩ := ho.stored i y
 obtain ⟨h3, h4⟩ := h1.stored t r
 have row : ∀ (z : Value) (B2 : Nat) (xs : List Int), Own w B2 z xs → Own ((w.setCell ⟨g, i, none⟩ y).setCell ⟨g, t, none⟩ r) B2 z xs := fun z B2 xs hz => row_grow h1 h4 (row_grow ho h2 hz)
 have hil : i < vs.length := by rw [hin.1]; exact hi'
 have htl : t < vs.length := by rw [hin.1]; exact ht
 have cas : ∀ (q : Nat) (z : Value), ((vs.set i y).set t r)[q]? = some z → (q = t ∧ z = r) ∨ ∃ q', vs[q']? = some z ∧ q ≠ t ∧ ((q = i ∧ q' = t) ∨ (q ≠ i ∧ q' = q)) := fun q z hz => by
  by_cases e : q = t
  · subst e
    rw [List.getElem?_set_self (by rw [List.length_set]; exact htl)] at hz
    injection hz with hz
    exact .inl ⟨rfl, hz.symm⟩
  · rw [List.getElem?_set_ne (Ne.symm e)] at hz
    by_cases e2 : q = i
    · subst e2
      rw [List.getElem?_set_self hil] at hz
      injection hz with hz
      subst hz
      exact .inr ⟨t, vy, e, .inl ⟨rfl, rfl⟩⟩
    · rw [List.getElem?_set_ne (Ne.symm e2)] at hz
      exact .inr ⟨q, hz, e, .inr ⟨e2, rfl⟩⟩
 refine ⟨⟨by simpa using hl, (vs.set i y).set t r, by simpa using h3, ⟨by simp [hin.1], fun q z hz => ?_, fun q k z u b hqk hz hu hzb hub => ?_⟩, fun q z hz => ?_⟩, grown_trans_row h2 h4⟩
 · rcases cas q z hz with ⟨rfl, rfl⟩ | ⟨q', hq, hne, hc⟩
   · rw [nthL_set_same (by rw [List.length_set]; exact ht)]
     exact (row _ _ _ hr).mono hB
   · have o := row _ _ _ (hin.2.1 q' z hq)
     rcases hc with ⟨rfl, rfl⟩ | ⟨h1, rfl⟩
     · rw [nthL_set_ne (Ne.symm hne), nthL_set_same hi']; exact o
     · rw [nthL_set_ne (Ne.symm hne), nthL_set_ne (Ne.symm h1)]; exact o
 · rcases cas q z hz with ⟨rfl, rfl⟩ | ⟨q', hqv, hne, hc⟩ <;> rcases cas k u hu with ⟨rfl, rfl⟩ | ⟨k', hk, hke, hd⟩
   · omega
   · have a1 := (hr.lt b hzb).1
     have a2 := hlow u (hQ k' u hk) b hub
     omega
   · have a1 := (hr.lt b hub).1
     have a2 := hlow z (hQ q' z hqv) b hzb
     omega
   · exact hin.2.2 q' k' z u b (by omega) hqv hk hzb hub
 · rcases cas q z hz with ⟨rfl, rfl⟩ | ⟨q', hq', _, _⟩
   · exact hq
   · exact hQQ z (hQ q' z hq')
theorem OwnSQ.swap (h : OwnSQ w B (.slice (some ⟨g, 0, none⟩) n c) yss Q) {i j : Nat} (hi : i < yss.length) (hj : j < yss.length) (hij : i ≠ j) {x y : Value} (hx : w.cell? ⟨g, i, none⟩ = some x) (hy : w.cell? ⟨g, j, none⟩ = some y) :
    OwnSQ ((w.setCell ⟨g, i, none⟩ y).setCell ⟨g, j, none⟩ x) B (.slice (some ⟨g, 0, none⟩) n c) ((yss.set i (nthL yss j)).set j (nthL yss i)) Q ∧ w.grownBy ((w.setCell ⟨g, i, none⟩ y).setCell ⟨g, j, none⟩ x) (some g) := by
 have e := h.own.len
 subst e
 obtain ⟨hl, vs, ho, hin, hQ⟩ := h
 have vx : vs[i]? = some x := by rw [← ho.cellAt i (by omega)]; exact hx
 have vy : vs[j]? = some y := by rw [← ho.cellAt j (by omega)]; exact hy
 obtain ⟨h1, h2⟩ := ho.stored i y
 obtain ⟨h3, h4⟩ := h1.stored j x
 have row : ∀ (z : Value) (B2 : Nat) (xs : List Int), Own w B2 z xs → Own ((w.setCell ⟨g, i, none⟩ y).setCell ⟨g, j, none⟩ x) B2 z xs := fun z B2 xs hz => row_grow h1 h4 (row_grow ho h2 hz)
 have hil : i < vs.length := by rw [hin.1]; exact hi
 have hjl : j < vs.length := by rw [hin.1]; exact hj
 have cas : ∀ (q : Nat) (z : Value), ((vs.set i y).set j x)[q]? = some z → ∃ q', vs[q']? = some z ∧ ((q = j ∧ q' = i) ∨ (q = i ∧ q ≠ j ∧ q' = j) ∨ (q ≠ i ∧ q ≠ j ∧ q' = q)) := fun q z hz => by
  by_cases e : q = j
  · subst e
    rw [List.getElem?_set_self (by rw [List.length_set]; exact hjl)] at hz
    injection hz with hz
    subst hz
    exact ⟨i, vx, .inl ⟨rfl, rfl⟩⟩
  · rw [List.getElem?_set_ne (Ne.symm e)] at hz
    by_cases e2 : q = i
    · subst e2
      rw [List.getElem?_set_self hil] at hz
      injection hz with hz
      subst hz
      exact ⟨j, vy, .inr (.inl ⟨rfl, e, rfl⟩)⟩
    · rw [List.getElem?_set_ne (Ne.symm e2)] at hz
      exact ⟨q, hz, .inr (.inr ⟨e2, e, rfl⟩)⟩
 refine ⟨⟨by simpa using hl, (vs.set i y).set j x, by simpa using h3, ⟨by simp [hin.1], fun q z hz => ?_, fun q k z u b hqk hz hu hzb hub => ?_⟩, fun q z hz => ?_⟩, grown_trans_row h2 h4⟩
 · obtain ⟨q', hq, hc⟩ := cas q z hz
   have o := row _ _ _ (hin.2.1 q' z hq)
   rcases hc with ⟨rfl, rfl⟩ | ⟨rfl, hne, rfl⟩ | ⟨h1, h2, rfl⟩
   · rw [nthL_set_same (by rw [List.length_set]; exact hj)]; exact o
   · rw [nthL_set_ne (Ne.symm hne), nthL_set_same hi]; exact o
   · rw [nthL_set_ne (Ne.symm h2), nthL_set_ne (Ne.symm h1)]; exact o
 · obtain ⟨q', hq, hc⟩ := cas q z hz
   obtain ⟨k', hk, hd⟩ := cas k u hu
   exact hin.2.2 q' k' z u b (by omega) hq hk hzb hub
 · obtain ⟨q', hq, _⟩ := cas q z hz
   exact hQ q' z hq
end
end Go.Proofs.Ytpglmogoddgmoaa
namespace Go.Proofs.Ytpglmogoddgmoaa
open Go.RowKit
def LIM : Int := 1000000000000
theorem capTo_anti {b l : Int} {j k : Nat} (hjk : j ≤ k) (h : capTo b l k ≤ l) : capTo b l j ≤ l := by
 rcases Int.lt_or_le l (capTo b l j) with h1 | h1
 · have := capTo_stop (b := b) (l := l) (k := j) (by omega) k hjk
   omega
 · exact h1
def isSpaceB (q n : Int) : Bool := isField q && (inB n 1 32 && decide (capTo q LIM n.toNat ≤ LIM))
theorem isSpace_any (q n : Int) (w : World) :
    Calls Try.prog 89 #[.int .i64 q, .int .i64 n] w fun e w' => e = .returned (.bool (isSpaceB q n)) ∧ Below w.heap.size w w' := by
 generalize hR : isSpaceB q n = R
 have HR := Lib.hid hR
 clear hR
 go_enter Try.func89, Try.ntmps89
 go_wp2_with fail
 refine (MakeField_any q w).mono ?_
 rintro e w1 ⟨v1, rfl, o1, b1⟩
 obtain ⟨a1, c1, rfl, _, _⟩ := o1.form
 have s1 := b1.size
 have hb := b1.alloc s1 (.cells #[.int .i64 (mkF q).1, .int .i64 (mkF q).2.1, .slice a1 (mkF q).2.2.1.length c1] 26)
 rcases hf : isField q with _ | _
 · rw [mkF_bad hf]
   have HF := Lib.hid hf
   clear hf
   go_wp2
   go_ret
   exact ⟨ret_bool (by rw [← HR.out, isSpaceB, HF.out]; rfl), hb⟩
 · rw [mkF_ok hf]
   obtain ⟨hq2, hq64, _⟩ := isField_size hf
   have HF := Lib.hid hf
   clear hf
   go_wp2_with fail
   refine (within_any n 1 32 _).mono ?_
   rintro e w2 ⟨rfl, rfl⟩
   rcases hk : inB n 1 32 with _ | _
   · have HK := Lib.hid hk
     clear hk
     go_wp2
     go_ret
     exact ⟨ret_bool (by rw [← HR.out, isSpaceB, HF.out, HK.out]; rfl), hb⟩
   · obtain ⟨hk1, hk8⟩ := inB_true.1 hk
     have HK := Lib.hid hk
     clear hk
     go_wp2_with fail
     refine (powerUpTo_any q n 1000000000000 _ (by omega) (by omega) (by omega) (by omega) (by omega)).mono ?_
     rintro e w2 ⟨rfl, rfl⟩
     have hr : R = decide (capTo q LIM n.toNat ≤ LIM) := by rw [← HR.out, isSpaceB, HF.out, HK.out]; rfl
     have HRR := Lib.hid hr
     clear hr
     by_cases hl : capTo q 1000000000000 n.toNat ≤ 1000000000000
     · go_wp2
       go_ret
       exact ⟨ret_bool (by rw [HRR.out]; unfold LIM; simp [hl]), hb⟩
     · go_wp2
       go_ret
       exact ⟨ret_bool (by rw [HRR.out]; unfold LIM; simp), hb⟩
theorem isSpaceB_true {q n : Int} (h : isSpaceB q n = true) : isField q = true ∧ 1 ≤ n ∧ n ≤ 32 ∧ capTo q LIM n.toNat ≤ LIM := by
 simp only [isSpaceB, Bool.and_eq_true, decide_eq_true_eq] at h
 obtain ⟨h1, h2, h3⟩ := h
 obtain ⟨h4, h5⟩ := inB_true.1 h2
 exact ⟨h1, h4, h5, h3⟩
end Go.Proofs.Ytpglmogoddgmoaa
namespace Go.Proofs.Ytpglmogoddgmoaa
open Go.RowKit
theorem Blk.grown {w w' : World} {g : Nat} {t : TypeId} {cs : Array Value} {row : Option Nat} (h : Blk w g t cs) (hg : w.grownBy w' row) (hne : row ≠ some g) : Blk w' g t cs := (hg.block g h.lt (Ne.symm hne)).trans h
end Go.Proofs.Ytpglmogoddgmoaa
namespace Go.Proofs.Ytpglmogoddgmoaa
open Go.RowKit
def gS (q d : Int) : Nat → Int × Int
 | 0 => (0, d)
 | i + 1 => ((gS q d i).1 + (gS q d i).2, ((gS q d i).2 + q - 1) / q)
def gI (q d : Int) : Nat → Int
 | 0 => 0
 | i + 1 => gI q d i + (d + capTo q 32 i - 1) / capTo q 32 i
theorem gri_eq : ∀ q : Nat, q < 65 → 2 ≤ q → ∀ d : Nat, d < 33 → ∀ i : Nat, i < 9 → gI q d i = (gS q d i).1 := by decide +kernel
theorem gS_bd {q d : Int} (hq : 2 ≤ q) (hd : 1 ≤ d) (hd2 : d ≤ 32) (i : Nat) : 0 ≤ (gS q d i).1 ∧ (gS q d i).1 ≤ 32 * i ∧ 1 ≤ (gS q d i).2 ∧ (gS q d i).2 ≤ 32 := by
 induction i with
 | zero => simp [gS]; omega
 | succ i ih =>
  obtain ⟨a, b, c, e⟩ := ih
  simp only [gS]
  generalize (gS q d i).1 = x at *
  generalize (gS q d i).2 = y at *
  have h1 : 1 ≤ (y + q - 1) / q := by
   rw [Int.le_ediv_iff_mul_le (by omega)]; omega
  have h2 : (y + q - 1) / q ≤ y := by
   have : (y + q - 1) / q < y + 1 := by
    rw [Int.ediv_lt_iff_lt_mul (by omega)]
    have := Int.mul_le_mul_of_nonneg_left (show (2:Int) ≤ q from hq) (show 0 ≤ y by omega)
    rw [Int.add_mul]
    have e2 : (y - 1) * (q - 2) ≥ 0 := Int.mul_nonneg (by omega) (by omega)
    rw [Int.sub_mul, Int.mul_sub] at e2
    omega
   omega
  omega
def griRes (q k d : Int) : Int × Int := if isField q && (inB k 1 8 && inB d 1 32) then ((gS q d k.toNat).1, 0) else (0, 2)
end Go.Proofs.Ytpglmogoddgmoaa
namespace Go.Proofs.Ytpglmogoddgmoaa
open Go.RowKit
def chTo (n k : Nat) : Nat → Int
 | 0 => 1
 | i + 1 => chTo n k i * ((n : Int) - (k : Int) + ((i : Int) + 1)) / ((i : Int) + 1)
def chOk (n k : Nat) : Bool := (List.range k).all fun (i : Nat) => decide (0 ≤ chTo n k i) && decide (chTo n k i * ((n : Int) - (k : Int) + ((i : Int) + 1)) ≤ 1000000000000)
theorem chOk_table : ∀ n : Nat, n < 33 → ∀ k : Nat, k < n + 1 → chOk n k = true := by decide +kernel
theorem ch_table (n : Nat) (hn : n < 33) (k : Nat) (hk : k < n + 1) (i : Nat) (hi : i < k) : (decide (0 ≤ chTo n k i) && decide (chTo n k i * ((n : Int) - (k : Int) + ((i : Int) + 1)) ≤ 1000000000000)) = true := by
 have := chOk_table n hn k hk
 rw [chOk, List.all_eq_true] at this
 exact this i (List.mem_range.2 hi)
def chooseV (n k : Int) : Int := if inB n 0 32 && inB k 0 n then chTo n.toNat k.toNat k.toNat else 0
theorem implChoose_any (n k : Int) (w : World) :
    Calls Try.prog 157 #[.int .i64 n, .int .i64 k] w fun e w' => e = .returned (.int .i64 (chooseV n k)) ∧ w = w' := by
 generalize hR : chooseV n k = R
 have HR := Lib.hid hR
 clear hR
 go_enter Try.func157, Try.ntmps157
 go_wp2_with fail
 refine (within_any n 0 32 w).mono ?_
 rintro e w1 ⟨rfl, rfl⟩
 rcases hf : inB n 0 32 with _ | _
 · have HF := Lib.hid hf
   clear hf
   go_wp2
   go_ret
   exact ⟨ret_int (by rw [← HR.out, chooseV, HF.out]; rfl), rfl⟩
 · obtain ⟨hn0, hn32⟩ := inB_true.1 hf
   have HF := Lib.hid hf
   clear hf
   go_wp2_with fail
   refine (within_any k 0 n w).mono ?_
   rintro e w1 ⟨rfl, rfl⟩
   rcases hk : inB k 0 n with _ | _
   · have HK := Lib.hid hk
     clear hk
     go_wp2
     go_ret
     exact ⟨ret_int (by rw [← HR.out, chooseV, HF.out, HK.out]; rfl), rfl⟩
   · obtain ⟨hk0, hkn⟩ := inB_true.1 hk
     have e1 : R = chTo n.toNat k.toNat k.toNat := by rw [← HR.out, chooseV, HF.out, hk]; rfl
     have E1 := Lib.hid e1
     clear hk e1
     obtain ⟨N, rfl⟩ := Int.eq_ofNat_of_zero_le hn0
     obtain ⟨K, rfl⟩ := Int.eq_ofNat_of_zero_le hk0
     go_wp2_with fail
     go_loop [5, 6] (fun ov iv => ∃ (i : Nat) (o : Int), iv = .int .i64 ((i : Int) + 1) ∧ ov = .int .i64 o ∧ i ≤ K ∧ Hid (chTo N K i = o)) (fun _ iv => K + 1 - (intOf iv).toNat)
     case atStart => exact ⟨0, 1, rfl, rfl, by omega, rfl⟩
     case round =>
      obtain ⟨i, o, rfl, rfl, hi, hc⟩ := hrel
      by_cases hik : i < K
      · have ht := ch_table N (by omega) K (by omega) i (by omega)
        rw [hc.out, Bool.and_eq_true, decide_eq_true_eq, decide_eq_true_eq] at ht
        obtain ⟨ht0, ht1⟩ := ht
        have hc1 : chTo N K (i + 1) = o * ((N : Int) - (K : Int) + ((i : Int) + 1)) / ((i : Int) + 1) := by rw [chTo, hc.out]
        have hq0 : 0 ≤ o * ((N : Int) - (K : Int) + ((i : Int) + 1)) := Int.mul_nonneg ht0 (by omega)
        have hq1 : 0 ≤ o * ((N : Int) - (K : Int) + ((i : Int) + 1)) / ((i : Int) + 1) := Int.ediv_nonneg hq0 (by omega)
        have hq2 : o * ((N : Int) - (K : Int) + ((i : Int) + 1)) / ((i : Int) + 1) ≤ o * ((N : Int) - (K : Int) + ((i : Int) + 1)) := Int.ediv_le_self _ hq0
        have HC := Lib.hid hc1
        clear hc1 hc
        go_wp2
        go_round
        case rel => exact ⟨i + 1, _, by go_num, rfl, by omega, HC⟩
        case measure => simp only [intOf]; omega
      · obtain rfl : i = K := by omega
        go_wp2
        go_ret
        exact ⟨ret_int (by rw [E1.out, Int.toNat_natCast, Int.toNat_natCast]; exact hc.out.symm), rfl⟩
end Go.Proofs.Ytpglmogoddgmoaa
namespace Go.Proofs.Ytpglmogoddgmoaa
open Go.RowKit
def prow : Nat → List Nat
 | 0 => [1]
 | n + 1 => List.zipWith (· + ·) (0 :: prow n) (prow n ++ [0])
def bin (n k : Nat) : Nat := (prow n).getD k 0
theorem prow_len (n : Nat) : (prow n).length = n + 1 := by
 induction n with
 | zero => rfl
 | succ n ih => simp [prow, ih]
theorem bin_zero (n : Nat) : bin n 0 = 1 := by
 induction n with
 | zero => rfl
 | succ n ih =>
  have h := prow_len n
  unfold bin at ih ⊢
  rw [prow]
  cases hp : prow n with
  | nil => rw [hp] at h; simp at h
  | cons x r => rw [hp] at ih; simp at ih ⊢; exact ih
theorem bin_succ (n k : Nat) : bin (n + 1) (k + 1) = bin n k + bin n (k + 1) := by
 have h := prow_len n
 unfold bin
 rw [prow]
 simp only [List.getD_eq_getElem?_getD, List.getElem?_zipWith, List.getElem?_cons_succ]
 rcases Nat.lt_or_ge (k + 1) (n + 1) with h1 | h1
 · rw [List.getElem?_append_left (by omega), List.getElem?_eq_getElem (by omega), List.getElem?_eq_getElem (by omega)]
   simp
 · rcases Nat.lt_or_ge k (n + 1) with h2 | h2
   · have : k + 1 = (prow n).length := by omega
     rw [List.getElem?_append_right (by omega), this, Nat.sub_self, List.getElem?_eq_getElem (show k < (prow n).length by omega)]
     simp
   · rw [List.getElem?_eq_none (show (prow n).length ≤ k by omega), List.getElem?_eq_none (show (prow n).length ≤ k + 1 by omega)]
     simp
theorem bin_big {n k : Nat} (h : n < k) : bin n k = 0 := by
 unfold bin
 rw [List.getD_eq_getElem?_getD, List.getElem?_eq_none (by rw [prow_len]; omega)]; rfl
theorem bin_table : ∀ n : Nat, n < 33 → ∀ k : Nat, k < n + 1 → chTo n k k = (bin n k : Int) := by decide +kernel
theorem chooseV_bin {n k : Nat} (hn : n ≤ 32) (hk : k ≤ n) : chooseV n k = (bin n k : Int) := by
 rw [chooseV, inB_yes (by omega) (by omega), inB_yes (by omega) (by omega)]
 simp only [Bool.and_self, if_true, Int.toNat_natCast]
 exact bin_table n (by omega) k (by omega)
def sumTo (f : Nat → Int) : Nat → Int
 | 0 => 0
 | n + 1 => sumTo f n + f n
theorem sumTo_add (f g : Nat → Int) (n : Nat) : sumTo (fun i => f i + g i) n = sumTo f n + sumTo g n := by
 induction n with
 | zero => rfl
 | succ n ih => simp only [sumTo, ih]; omega
theorem sumTo_mul (c : Int) (f : Nat → Int) (n : Nat) : sumTo (fun i => c * f i) n = c * sumTo f n := by
 induction n with
 | zero => simp [sumTo]
 | succ n ih => simp only [sumTo, ih, Int.mul_add]
theorem sumTo_shift (f : Nat → Int) (n : Nat) : sumTo f (n + 1) = f 0 + sumTo (fun i => f (i + 1)) n := by
 induction n with
 | zero => simp [sumTo]
 | succ n ih => rw [sumTo, ih]; simp only [sumTo]; omega
theorem sumTo_congr {f g : Nat → Int} {n : Nat} (h : ∀ i, i < n → f i = g i) : sumTo f n = sumTo g n := by
 induction n with
 | zero => rfl
 | succ n ih => rw [sumTo, sumTo, ih (fun i hi => h i (by omega)), h n (by omega)]
theorem sumTo_nonneg {f : Nat → Int} {n : Nat} (h : ∀ i, i < n → 0 ≤ f i) : 0 ≤ sumTo f n := by
 induction n with
 | zero => exact Int.le_refl _
 | succ n ih =>
  have := ih (fun i hi => h i (by omega))
  have := h n (by omega)
  rw [sumTo]; omega
theorem sumTo_mono {f : Nat → Int} (h : ∀ i, 0 ≤ f i) {m n : Nat} (hmn : m ≤ n) : sumTo f m ≤ sumTo f n := by
 induction n with
 | zero => obtain rfl : m = 0 := by omega
           exact Int.le_refl _
 | succ n ih =>
  by_cases e : m = n + 1
  · subst e; exact Int.le_refl _
  · have := ih (by omega)
    have := h n
    rw [sumTo]; omega
theorem binomial (a : Int) (n : Nat) : sumTo (fun i => (bin n i : Int) * a ^ i) (n + 1) = (a + 1) ^ n := by
 induction n with
 | zero => simp [sumTo, bin, prow]
 | succ n ih =>
  rw [sumTo_shift]
  have e1 : sumTo (fun i => (bin (n + 1) (i + 1) : Int) * a ^ (i + 1)) (n + 1) =
      sumTo (fun i => a * ((bin n i : Int) * a ^ i) + (bin n (i + 1) : Int) * a ^ (i + 1)) (n + 1) := by
   apply sumTo_congr
   intro i _
   rw [bin_succ, Int.natCast_add, Int.add_mul, Int.pow_succ, ← Int.mul_assoc, Int.mul_comm _ a]
  rw [e1, sumTo_add, sumTo_mul, ih]
  have e2 : sumTo (fun i => (bin n (i + 1) : Int) * a ^ (i + 1)) (n + 1) = sumTo (fun i => (bin n (i + 1) : Int) * a ^ (i + 1)) n := by
   rw [sumTo, bin_big (show n < n + 1 by omega)]; simp
  rw [e2]
  rw [sumTo_shift] at ih
  simp only [bin_zero, Int.natCast_one, Int.pow_zero, Int.mul_one] at ih ⊢
  rw [Int.pow_succ, Int.mul_add, Int.mul_one, Int.mul_comm]
  omega
def ballT (q : Int) (n : Nat) (i : Nat) : Int := chooseV n i * (q - 1) ^ i
def ballV (q : Int) (n r : Nat) : Int := sumTo (ballT q n) (r + 1)
theorem chooseV_nonneg {n : Nat} (hn : n ≤ 32) (i : Nat) : 0 ≤ chooseV n i := by
 by_cases h : i ≤ n
 · rw [chooseV_bin hn h]; omega
 · rw [chooseV, inB_no2 (show ¬ (i : Int) ≤ n by omega)]; simp
theorem ballT_nonneg {q : Int} (hq : 1 ≤ q) {n : Nat} (hn : n ≤ 32) (i : Nat) : 0 ≤ ballT q n i :=
 Int.mul_nonneg (chooseV_nonneg hn i) (Int.pow_nonneg (by omega))
theorem ball_all {q : Int} {n : Nat} (hn : n ≤ 32) : sumTo (ballT q n) (n + 1) = q ^ n := by
 have h := binomial (q - 1) n
 rw [Int.sub_add_cancel] at h
 rw [← h]
 apply sumTo_congr
 intro i hi
 rw [ballT, chooseV_bin hn (by omega)]
theorem ball_le {q : Int} (hq : 1 ≤ q) {n : Nat} (hn : n ≤ 32) {r : Nat} (hr : r ≤ n + 1) : sumTo (ballT q n) r ≤ q ^ n := by
 rw [← ball_all hn]
 exact sumTo_mono (ballT_nonneg hq hn) hr
theorem ballT_le {q : Int} (hq : 1 ≤ q) {n : Nat} (hn : n ≤ 32) {i : Nat} (hi : i ≤ n) : ballT q n i ≤ q ^ n := by
 have h1 := ball_le hq hn (show i + 1 ≤ n + 1 by omega)
 have h2 : 0 ≤ sumTo (ballT q n) i := sumTo_nonneg (fun j _ => ballT_nonneg hq hn j)
 rw [sumTo] at h1
 omega
theorem ball_pos {q : Int} (hq : 1 ≤ q) {n : Nat} (hn : n ≤ 32) (r : Nat) : 1 ≤ ballV q n r := by
 have h0 : ballT q n 0 = 1 := by
  rw [ballT]
  have h := chooseV_bin hn (Nat.zero_le n)
  rw [bin_zero] at h
  simp only [Int.pow_zero, Int.mul_one]
  exact h
 have := sumTo_mono (ballT_nonneg hq hn) (show 1 ≤ r + 1 by omega)
 have e : sumTo (ballT q n) 1 = 1 := by simp [sumTo, h0]
 unfold ballV
 omega
theorem capTo_eq {b l : Int} (hb : 1 ≤ b) {m : Nat} (h : capTo b l m ≤ l) : capTo b l m = b ^ m := by
 induction m with
 | zero => simp [capTo]
 | succ m ih =>
  have h1 := capTo_anti (show m ≤ m + 1 by omega) h
  rw [capTo_go h1, ih h1, Int.pow_succ]
end Go.Proofs.Ytpglmogoddgmoaa
namespace Go.Proofs.Ytpglmogoddgmoaa
open Go.RowKit
def singRes (q n d : Int) : Int × Int := if isSpaceB q n && inB d 1 n then (capTo q LIM (n - d + 1).toNat, 0) else (0, 2)
theorem implSing_any (q n d : Int) (w : World) :
    Calls Try.prog 36 #[.int .i64 q, .int .i64 n, .int .i64 d] w fun e w' => e = .returned (.tuple #[.int .i64 (singRes q n d).1, .int .i64 (singRes q n d).2]) ∧ Below w.heap.size w w' := by
 generalize hR : singRes q n d = R
 have HR := Lib.hid hR
 clear hR
 go_enter Try.func36, Try.ntmps36
 go_wp2_with fail
 refine (isSpace_any q n w).mono ?_
 rintro e w1 ⟨rfl, hb⟩
 rcases hf : isSpaceB q n with _ | _
 · have HF := Lib.hid hf
   clear hf
   go_wp2
   go_ret2
   have e1 : R = (0, 2) := by rw [← HR.out, singRes, HF.out]; rfl
   exact ⟨ret_ints2 (by rw [e1]) (by rw [e1]), hb⟩
 · obtain ⟨hfq, hn1, hn32, hcap⟩ := isSpaceB_true hf
   obtain ⟨hq2, hq64, _⟩ := isField_size hfq
   have HF := Lib.hid hf
   clear hf
   go_wp2_with fail
   refine (within_any d 1 n _).mono ?_
   rintro e w2 ⟨rfl, rfl⟩
   rcases hk : inB d 1 n with _ | _
   · have HK := Lib.hid hk
     clear hk hcap hfq
     go_wp2
     go_ret2
     have e1 : R = (0, 2) := by rw [← HR.out, singRes, HF.out, HK.out]; rfl
     exact ⟨ret_ints2 (by rw [e1]) (by rw [e1]), hb⟩
   · obtain ⟨hd1, hd2⟩ := inB_true.1 hk
     have e1 : R = (capTo q LIM (n - d + 1).toNat, 0) := by rw [← HR.out, singRes, HF.out, hk]; rfl
     have E1 := Lib.hid e1
     clear hk hcap hfq e1
     go_wp2_with fail
     refine (powerUpTo_any q (n - d + 1) 1000000000000 _ (by omega) (by omega) (by omega) (by omega) (by omega)).mono ?_
     rintro e w2 ⟨rfl, rfl⟩
     go_wp2
     go_ret2
     exact ⟨ret_ints2 (by rw [E1.out]; rfl) (by rw [E1.out]), hb⟩
end Go.Proofs.Ytpglmogoddgmoaa
namespace Go.Proofs.Ytpglmogoddgmoaa
open Go.RowKit
theorem pow_le_LIM {q : Int} (hq : 2 ≤ q) {n i : Nat} (h : q ^ n ≤ LIM) (hi : i ≤ n) : (q - 1) ^ i ≤ LIM :=
 Int.le_trans (pow_base (by omega) (show q - 1 ≤ q by omega) i) (Int.le_trans (pow_mono (by omega) hi) h)
theorem ballSize_any (q : Int) (n r : Nat) (w : World) (hq : 2 ≤ q) (hq64 : q ≤ 64) (hn : n ≤ 32) (hr : r ≤ n) (hL : q ^ n ≤ LIM) :
    Calls Try.prog 90 #[.int .i64 q, .int .i64 n, .int .i64 r] w fun e w' => e = .returned (.int .i64 (ballV q n r)) ∧ w = w' := by
 have HL := Lib.hid hL
 clear hL
 go_enter Try.func90, Try.ntmps90
 go_wp2
 go_loop [7, 8, 12] (fun ov fv iv => ∃ (i : Nat) (o f : Int), iv = .int .i64 i ∧ ov = .int .i64 o ∧ fv = .int .i64 f ∧ i ≤ r + 1 ∧ 0 ≤ o ∧ o ≤ 1000000000000 ∧ 0 ≤ f ∧ Hid (sumTo (ballT q n) i = o) ∧ Hid (f = (q - 1) ^ i)) (fun _ _ iv => r + 1 - (intOf iv).toNat)
 case atStart => exact ⟨0, 0, 1, rfl, rfl, rfl, by omega, by omega, by omega, by omega, rfl, show _ = _ by simp⟩
 case round =>
  obtain ⟨i, o, f, rfl, rfl, rfl, hi, ho0, ho1, hf0, hs, hf⟩ := hrel
  by_cases hir : i ≤ r
  · have hS : sumTo (ballT q n) (i + 1) = o + chooseV n i * f := by rw [sumTo, hs.out, ballT, ← hf.out]
    have hb := ball_le (q := q) (by omega) hn (show i + 1 ≤ n + 1 by omega)
    have hL := HL.out
    have ht0 := ballT_nonneg (q := q) (by omega) hn i
    have ht1 := ballT_le (q := q) (by omega) hn (show i ≤ n by omega)
    rw [hS] at hb
    rw [ballT, ← hf.out] at ht0 ht1
    have hfl := pow_le_LIM hq hL (show i ≤ n by omega)
    rw [← hf.out] at hfl
    unfold LIM at hfl
    have hX := fun W => implChoose_any n i W
    generalize chooseV n i = X at hS hb ht0 ht1 hX
    have hF : f * (q - 1) = (q - 1) ^ (i + 1) := by rw [Int.pow_succ, ← hf.out]
    have HS := Lib.hid hS
    have HF := Lib.hid hF
    have HX := hide hX
    have hb2 : o + X * f ≤ 1000000000000 := by unfold LIM at hL; omega
    have ht2 : X * f ≤ 1000000000000 := by unfold LIM at hL; omega
    have hfq0 : 0 ≤ f * (q - 1) := Int.mul_nonneg hf0 (by omega)
    have hfq1 : f * (q - 1) ≤ 100000000000000 := by
     have := Int.mul_le_mul hfl (show q - 1 ≤ 63 by omega) (by omega) (by omega)
     omega
    clear hS hs hX hb hL ht1 hF hf
    go_wp2_with fail
    refine (unhide HX _).mono ?_
    rintro e w1 ⟨rfl, rfl⟩
    go_wp2
    go_round
    case rel => exact ⟨i + 1, o + X * f, f * (q - 1), by go_num, rfl, rfl, by omega, by omega, hb2, hfq0, HS, HF⟩
    case measure => simp only [intOf]; omega
  · obtain rfl : i = r + 1 := by omega
    go_wp2
    go_ret
    exact ⟨ret_int hs.out.symm, rfl⟩
def hbdRes (q n d : Int) : Int × Int := if isSpaceB q n && inB d 1 n then (q ^ n.toNat / ballV q n.toNat ((d - 1) / 2).toNat, 0) else (0, 2)
theorem implHam_any (q n r : Int) (w : World) :
    Calls Try.prog 37 #[.int .i64 q, .int .i64 n, .int .i64 r] w fun e w' => e = .returned (.tuple #[.int .i64 (hbdRes q n r).1, .int .i64 (hbdRes q n r).2]) ∧ Below w.heap.size w w' := by
 generalize hR : hbdRes q n r = R
 have HR := Lib.hid hR
 clear hR
 go_enter Try.func37, Try.ntmps37
 go_wp2_with fail
 refine (isSpace_any q n w).mono ?_
 rintro e w1 ⟨rfl, hb⟩
 rcases hf : isSpaceB q n with _ | _
 · have HF := Lib.hid hf
   clear hf
   go_wp2
   go_ret2
   have e1 : R = (0, 2) := by rw [← HR.out, hbdRes, HF.out]; rfl
   exact ⟨ret_ints2 (by rw [e1]) (by rw [e1]), hb⟩
 · obtain ⟨hfq, hn1, hn32, hcap⟩ := isSpaceB_true hf
   obtain ⟨hq2, hq64, _⟩ := isField_size hfq
   have HF := Lib.hid hf
   clear hf
   go_wp2_with fail
   refine (within_any r 1 n _).mono ?_
   rintro e w2 ⟨rfl, rfl⟩
   rcases hk : inB r 1 n with _ | _
   · have HK := Lib.hid hk
     clear hk hcap hfq
     go_wp2
     go_ret2
     have e1 : R = (0, 2) := by rw [← HR.out, hbdRes, HF.out, HK.out]; rfl
     exact ⟨ret_ints2 (by rw [e1]) (by rw [e1]), hb⟩
   · obtain ⟨hr0, hrn⟩ := inB_true.1 hk
     have e1 : R = (q ^ n.toNat / ballV q n.toNat ((r - 1) / 2).toNat, 0) := by rw [← HR.out, hbdRes, HF.out, hk]; rfl
     clear hk
     obtain ⟨N, rfl⟩ := Int.eq_ofNat_of_zero_le (show 0 ≤ n by omega)
     obtain ⟨D, rfl⟩ := Int.eq_ofNat_of_zero_le (show 0 ≤ r by omega)
     rw [Int.toNat_natCast] at e1
     have E1 := Lib.hid e1
     rw [Int.toNat_natCast] at hcap
     have hpe := capTo_eq (by omega) hcap
     have hcap2 := hcap
     rw [hpe] at hcap
     have hdd : ((D : Int) - 1) / 2 = (((D - 1) / 2 : Nat) : Int) := by omega
     have HDD := Lib.hid hdd
     have HB := hide (fun W => ballSize_any q N ((D - 1) / 2) W hq2 hq64 (by omega) (by omega) hcap)
     have hbp := ball_pos (q := q) (by omega) (show N ≤ 32 by omega) ((D - 1) / 2)
     have hpp : 0 ≤ q ^ N := Int.pow_nonneg (by omega)
     have hpl : q ^ N ≤ 1000000000000 := hcap
     have hpw := fun W => powerUpTo_any q N 1000000000000 W (by omega) (by omega) (by omega) (by omega) (by omega)
     have hpe2 : capTo q 1000000000000 N = q ^ N := hpe
     simp only [Int.toNat_natCast, hpe2] at hpw
     have HPW := hide hpw
     clear hpw hpe2
     clear hcap hcap2 hfq e1 hpe hdd
     generalize hP : q ^ N = P at hpp hpl HPW E1
     generalize hV : ballV q N ((D - 1) / 2) = V at hbp HB
     have HV := Lib.hid hV
     have hq0 : 0 ≤ P / V := Int.ediv_nonneg hpp (by omega)
     have hq1 : P / V ≤ P := Int.ediv_le_self _ hpp
     have hde : ((D : Int) - 1) / 2 = (((D - 1) / 2 : Nat) : Int) := by omega
     have HDE := Lib.hid hde
     clear hP hV hde
     go_wp2_with fail
     refine (unhide HPW _).mono ?_
     rintro e w2 ⟨rfl, rfl⟩
     go_wp2_with fail
     rw [HDE.out]
     refine (unhide HB _).mono ?_
     rintro e w2 ⟨rfl, rfl⟩
     go_wp2
     go_ret2
     exact ⟨ret_ints2 (by rw [E1.out, HDE.out, Int.toNat_natCast, HV.out]) (by rw [E1.out]), hb⟩
end Go.Proofs.Ytpglmogoddgmoaa
