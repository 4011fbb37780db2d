/-
  Walks: a list of its own, digits, numbers of digits, powers. Printed by gen_dig.py.
-/
import Derived.Test.YtkbppgpegljcoaaIrr
namespace Go.Proofs.Ytkbppgpegljcoaa
open Go.RowKit

theorem l00Own_any (a : Option Addr) (c : Nat) (xs : List Int) (w : World) (hx : Rd w a xs) :
    Calls Try.prog 85 #[.slice a xs.length c] w fun e w' => ∃ v, e = .returned v ∧ Own w' w.heap.size v xs ∧ Below w.heap.size w w' := by
  have hxl := hx.len
  go_enter Try.func85, Try.ntmps85
  go_wp2_with (at_builtin; refine wpList_append_ints rfl (.tmp 3) (.tmp 4) rfl w.heap.size _ [] xs rfl (Own.empty w (Nat.le_refl _)) a xs.length c rfl rfl (hx.alloc _) (by simpa using hxl) (by simp) ?_; intro v1 w1 hown1 hg1 _)
  go_ret
  exact ⟨_, rfl, by simpa using hown1, Below.step ((Below.refl _ _).alloc (Nat.le_refl _) _) hg1 (Own.empty w (Nat.le_refl _)) (Nat.le_refl _) (by simp)⟩

set_option maxRecDepth 100000 in
set_option maxHeartbeats 400000 in
theorem l03Digits_any (n p : Int) (k : Nat) (w : World) (hn : 0 ≤ n) (hn2 : n ≤ 9223372036854775807) (hp : 1 ≤ p) (hp2 : p ≤ 1000000) (hk : k ≤ 1000000) :
    Calls Try.prog 123 #[.int .i64 n, .int .i64 p, .int .i64 k] w fun e w' => ∃ v, e = .returned v ∧ Own w' w.heap.size v (dig n p k) ∧ Below w.heap.size w w' := by
  go_enter Try.func123, Try.ntmps123
  go_wp2
  go_loopw [0, 2, 7] (fun nv kv v wr => ∃ (j r : Nat) (m : Int), nv = .int .i64 m ∧ kv = .int .i64 (r : Int) ∧ Hid (j + r = k) ∧ r ≤ 1000000 ∧ j ≤ 1000000 ∧ 0 ≤ m ∧ m ≤ 9223372036854775807 ∧ Hid (m = n / p ^ j) ∧ Own wr w.heap.size v (dig n p j) ∧ Below w.heap.size w wr) (fun _ kv _ _ => (intOf kv).toNat)
  case atStart => exact ⟨0, k, n, rfl, rfl, by simp [Hid], hk, by omega, hn, hn2, by simp [Hid], Own.empty w (Nat.le_refl _), (Below.refl _ _).alloc (Nat.le_refl _) _⟩
  case round =>
    obtain ⟨j, r, m, rfl, rfl, hjr, hr, hj, hm0, hm1, hm, ho, hb⟩ := hrel
    have hsz := hb.size
    by_cases hr0 : 0 < r
    · have e1 := Int.emod_nonneg m (show p ≠ 0 by omega)
      have e2 := Int.emod_lt_of_pos m (show 0 < p by omega)
      have e3 := Int.ediv_nonneg hm0 (show 0 ≤ p by omega)
      have e4 : m / p ≤ m := Int.ediv_le_self _ hm0
      have hdl := dig_len n p j
      go_wp2_with (at_builtin; refine wpList_append_ints rfl (.tmp 13) (.tmp 17) rfl w.heap.size u7 (dig n p j) [m % p] rfl (ho.alloc _) _ 1 1 rfl rfl (Rd.one wr (m % p) _) (by rw [hdl]; simp; omega) (by simp; omega) ?_; intro v1 w1 hown1 hg1 _)
      go_roundw
      case rel => exact ⟨j + 1, r - 1, m / p, rfl, by go_num, by have := hjr.out; show _ = _; omega, by omega, by have := hjr.out; omega, e3, by omega, by show _ = _; rw [hm.out, div_pow_succ n p (by omega)], by rw [dig_succ, ← hm.out]; exact hown1, Below.step (hb.alloc hsz _) hg1 (ho.alloc _) (Nat.le_refl _) (by simp; omega)⟩
      case measure => first | (simp [intOf]; done) | (simp [intOf]; omega)
    · go_wp2
      go_ret
      exact ⟨_, rfl, by have := hjr.out; obtain rfl : j = k := by omega
                        exact ho, hb⟩

set_option maxHeartbeats 400000 in
theorem l03Number_any (a : Option Addr) (c : Nat) (xs : List Int) (p : Int) (w : World) (hx : Rd w a xs) (hp : 1 ≤ p) (hp2 : p ≤ 1000000) (hr : InR p xs) (hq : p ^ xs.length ≤ 1099511627776) :
    Calls Try.prog 132 #[.slice a xs.length c, .int .i64 p] w fun e w' => e = .returned (.int .i64 (num p xs)) ∧ w = w' := by
  have hxl := hx.len
  have bnd : ∀ m, m < xs.length → 0 ≤ num p (xs.drop (m + 1)) * p ∧ num p (xs.drop (m + 1)) * p ≤ 1099511627776 ∧ 0 ≤ nth xs m ∧ nth xs m < p ∧ num p (xs.drop (m + 1)) * p + nth xs m ≤ 1099511627776 := by
    intro m hm
    have h1 := num_bound (p := p) (by omega) (xs := xs.drop m) (fun x hx => hr x (List.mem_of_mem_drop hx))
    have h2 := num_bound (p := p) (by omega) (xs := xs.drop (m + 1)) (fun x hx => hr x (List.mem_of_mem_drop hx))
    rw [num_drop p hm] at h1
    have h3 : p ^ (xs.drop m).length ≤ p ^ xs.length := pow_mono hp (by simp)
    have h4 := hr.nth hm
    have h5 : 0 ≤ num p (xs.drop (m + 1)) * p := Int.mul_nonneg h2.1 (by omega)
    exact ⟨h5, by omega, h4.1, h4.2, by omega⟩
  have BN := hide bnd
  clear bnd hq
  go_enter Try.func132, Try.ntmps132
  go_wp2
  go_loop [5, 6] (fun o i => ∃ (j : Nat) (x y : Int), i = .int .i64 x ∧ o = .int .i64 y ∧ Hid (x = j - 1) ∧ j ≤ xs.length ∧ -1 ≤ x ∧ x < 1073741824 ∧ Hid (y = num p (xs.drop j)) ∧ 0 ≤ y ∧ y ≤ 1099511627776) (fun _ i => (intOf i + 1).toNat)
  case atStart => exact ⟨xs.length, _, 0, rfl, rfl, by simp [Hid], Nat.le_refl _, by omega, by omega, by simp [Hid, num], by omega, by omega⟩
  case round =>
    obtain ⟨j, x, y, rfl, rfl, hxj, hj, hx0, hx1, hy, hy0, hy1⟩ := hrel
    by_cases h0 : 0 ≤ x
    · obtain ⟨m, rfl⟩ := Int.eq_ofNat_of_zero_le h0
      obtain rfl : j = m + 1 := by have := hxj.out; omega
      obtain ⟨b1, b2, b3, b4, b5⟩ := (unhide BN) m (by omega)
      rw [← hy.out] at b1 b2 b5
      obtain ⟨g, o, rfl, _, hcx⟩ := hx.at_ (by omega)
      have hc := hcx m (by omega)
      clear hcx hx
      go_wp2
      go_round
      case rel => exact ⟨m, _, _, rfl, rfl, rfl, by omega, by omega, by omega, by have := hy.out; subst this; exact (num_drop p (by omega)).symm, by omega, by omega⟩
      case measure => first | (simp [intOf]; done) | (simp [intOf]; omega)
    · go_wp2
      go_ret
      exact ⟨ret_int (by have := hxj.out; obtain rfl : j = 0 := by omega
                         rw [hy.out]; rfl), rfl⟩

set_option maxHeartbeats 400000 in
theorem numberOf_any (a : Option Addr) (c : Nat) (xs : List Int) (p : Int) (w : World) (hx : Rd w a xs) (hp : 1 ≤ p) (hp2 : p ≤ 1000000) (hr : InR p xs) (hq : p ^ xs.length ≤ 1099511627776) :
    Calls Try.prog 163 #[.slice a xs.length c, .int .i64 p] w fun e w' => e = .returned (.int .i64 (num p xs)) ∧ w = w' := by
  have hxl := hx.len
  have bnd : ∀ m, m < xs.length → 0 ≤ num p (xs.drop (m + 1)) * p ∧ num p (xs.drop (m + 1)) * p ≤ 1099511627776 ∧ 0 ≤ nth xs m ∧ nth xs m < p ∧ num p (xs.drop (m + 1)) * p + nth xs m ≤ 1099511627776 := by
    intro m hm
    have h1 := num_bound (p := p) (by omega) (xs := xs.drop m) (fun x hx => hr x (List.mem_of_mem_drop hx))
    have h2 := num_bound (p := p) (by omega) (xs := xs.drop (m + 1)) (fun x hx => hr x (List.mem_of_mem_drop hx))
    rw [num_drop p hm] at h1
    have h3 : p ^ (xs.drop m).length ≤ p ^ xs.length := pow_mono hp (by simp)
    have h4 := hr.nth hm
    have h5 : 0 ≤ num p (xs.drop (m + 1)) * p := Int.mul_nonneg h2.1 (by omega)
    exact ⟨h5, by omega, h4.1, h4.2, by omega⟩
  have BN := hide bnd
  clear bnd hq
  go_enter Try.func163, Try.ntmps163
  go_wp2
  go_loop [5, 6] (fun o i => ∃ (j : Nat) (x y : Int), i = .int .i64 x ∧ o = .int .i64 y ∧ Hid (x = j - 1) ∧ j ≤ xs.length ∧ -1 ≤ x ∧ x < 1073741824 ∧ Hid (y = num p (xs.drop j)) ∧ 0 ≤ y ∧ y ≤ 1099511627776) (fun _ i => (intOf i + 1).toNat)
  case atStart => exact ⟨xs.length, _, 0, rfl, rfl, by simp [Hid], Nat.le_refl _, by omega, by omega, by simp [Hid, num], by omega, by omega⟩
  case round =>
    obtain ⟨j, x, y, rfl, rfl, hxj, hj, hx0, hx1, hy, hy0, hy1⟩ := hrel
    by_cases h0 : 0 ≤ x
    · obtain ⟨m, rfl⟩ := Int.eq_ofNat_of_zero_le h0
      obtain rfl : j = m + 1 := by have := hxj.out; omega
      obtain ⟨b1, b2, b3, b4, b5⟩ := (unhide BN) m (by omega)
      rw [← hy.out] at b1 b2 b5
      obtain ⟨g, o, rfl, _, hcx⟩ := hx.at_ (by omega)
      have hc := hcx m (by omega)
      clear hcx hx
      go_wp2
      go_round
      case rel => exact ⟨m, _, _, rfl, rfl, rfl, by omega, by omega, by omega, by have := hy.out; subst this; exact (num_drop p (by omega)).symm, by omega, by omega⟩
      case measure => first | (simp [intOf]; done) | (simp [intOf]; omega)
    · go_wp2
      go_ret
      exact ⟨ret_int (by have := hxj.out; obtain rfl : j = 0 := by omega
                         rw [hy.out]; rfl), rfl⟩

theorem l03Power_any (p : Int) (k : Nat) (w : World) (hp : 1 ≤ p) (hp2 : p ≤ 1000000) (hk : k ≤ 1000000) (hq : p ^ k ≤ 1099511627776) :
    Calls Try.prog 158 #[.int .i64 p, .int .i64 k] w fun e w' => e = .returned (.int .i64 (p ^ k)) ∧ w = w' := by
  have bnd : ∀ j, j < k → 0 ≤ p ^ j * p ∧ p ^ j * p ≤ 1099511627776 := by
    intro j hj
    have h1 : p ^ (j + 1) ≤ p ^ k := pow_mono hp hj
    rw [Int.pow_succ] at h1
    exact ⟨Int.mul_nonneg (Int.pow_nonneg (by omega)) (by omega), by omega⟩
  have BN := hide bnd
  clear bnd hq
  go_enter Try.func158, Try.ntmps158
  go_wp2
  go_loop [1, 5] (fun kv o => ∃ (j r : Nat) (y : Int), kv = .int .i64 (r : Int) ∧ o = .int .i64 y ∧ Hid (j + r = k) ∧ r ≤ 1000000 ∧ Hid (y = p ^ j)) (fun kv _ => (intOf kv).toNat)
  case atStart => exact ⟨0, k, 1, rfl, rfl, by simp [Hid], hk, by simp [Hid]⟩
  case round =>
    obtain ⟨j, r, y, rfl, rfl, hjr, hr, hy⟩ := hrel
    by_cases h0 : 0 < r
    · obtain ⟨b1, b2⟩ := (unhide BN) j (by have := hjr.out; omega)
      rw [← hy.out] at b1 b2
      go_wp2
      go_round
      case rel => exact ⟨j + 1, r - 1, _, by go_num, rfl, by have := hjr.out; show _ = _; omega, by omega, by show _ = _; rw [hy.out, Int.pow_succ]⟩
      case measure => first | (simp [intOf]; done) | (simp [intOf]; omega)
    · go_wp2
      go_ret
      exact ⟨ret_int (by have := hjr.out; obtain rfl : j = k := by omega
                         exact hy.out), rfl⟩
end Go.Proofs.Ytkbppgpegljcoaa
