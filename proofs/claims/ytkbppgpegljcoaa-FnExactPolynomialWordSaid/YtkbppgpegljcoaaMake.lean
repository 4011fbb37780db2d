/-
  Walk of MakeField (the program's).
-/
import Derived.Test.YtkbppgpegljcoaaTab
namespace Go.Proofs.Ytkbppgpegljcoaa
open Go.RowKit

theorem results_cell_tmp_row {P : Program} {fn : Func} {p u : Tmp} {ty : TypeId} (h : fn.results = #[.cell p ty, .tmp u]) (tmps : Array Value) (w : World) (g : Nat) (t : TypeId) (cs : Array Value) (d : TypeDesc)
    (hp : tmps.getD p undef = .pointer (some ⟨g, 0, none⟩)) (hg : Blk w g t cs)
    (hu : P.underlying ty = some d) (hd : (match d with | .struct _ | .array _ _ => true | _ => false) = true) (hi : (P.info? ty).map (·.size) = some cs.size) :
    (results fn tmps).run P w = .ok (.tuple #[.agg cs, tmps.getD u undef]) w := by
  rw [results_cell_tmp h, hp]
  simp [asAddr, run_loadVar_row w g t ty cs (0, 0) d hg hu hd hi, Result.andThen]

def polyAt (p : Int) (k n : Nat) : List Int := dig n p k ++ [1]
def leastN (p : Int) (k : Nat) : Nat := ((List.range 64).find? (fun n => irr (polyAt p k n) p)).getD 0
/-- The field of a size: prime, exponent, polynomial; the code. -/
def mkF (q : Int) : Int × Int × List Int × Int :=
  if isField q then ((split q).1, (split q).2, polyAt (split q).1 (split q).2.toNat (leastN (split q).1 (split q).2.toNat), 0) else (0, 0, [], 2)
theorem polyAt_len (p : Int) (k n : Nat) : (polyAt p k n).length = k + 1 := by rw [polyAt, List.length_append, dig_len]; rfl

structure SizeOk (q p : Int) (k : Nat) : Prop where
  lo : 2 ≤ p
  hi : p ≤ 64
  k1 : 1 ≤ k
  k6 : k ≤ 6
  pow : p ^ k = q
  some_ : ∃ n : Nat, n < 64 ∧ irr (polyAt p k n) p = true
theorem isField_size {q : Int} (h : isField q = true) : 2 ≤ q ∧ q ≤ 64 ∧ split q = ppI q ∧ ∃ k : Nat, (split q).2 = (k : Int) ∧ SizeOk q (split q).1 k := by
  have hs := h
  rw [isField, decide_eq_true_eq, split] at h
  by_cases hb : inB q 2 64 = true
  · obtain ⟨h2, h64⟩ := inB_true.1 hb
    obtain ⟨n, rfl⟩ := Int.eq_ofNat_of_zero_le (show 0 ≤ q by omega)
    rw [if_pos hb, Int.toNat_natCast] at h
    have e : split (n : Int) = splitN n := by rw [split, if_pos hb, Int.toNat_natCast]
    have t1 := pp_table n (by omega)
    have t2 := size_table n (by omega) (by omega)
    have ef : ppI (n : Int) = splitN n := by
      rw [ppI, facs, if_pos (inB_yes (by omega) (by omega)), Int.toNat_natCast]
      rcases t1 with t1 | t1
      · exact t1
      · omega
    rw [e, ef]
    refine ⟨h2, h64, rfl, (splitN n).2.toNat, ?_⟩
    simp only [sizeOk, Bool.or_eq_true, Bool.and_eq_true, decide_eq_true_eq, beq_iff_eq, List.any_eq_true, List.mem_range] at t2
    rcases t2 with t2 | ⟨⟨⟨⟨⟨a1, a2⟩, a3⟩, a4⟩, a5⟩, m, a6, a7⟩
    · omega
    · exact ⟨by omega, a1, a2, by omega, by omega, a5, m, a6, a7⟩
  · rw [if_neg hb] at h
    simp at h
theorem isField_no {q : Int} (h : isField q = false) : (ppI q).1 = 0 ∨ 64 < q := by
  by_cases h64 : 64 < q
  · exact .inr h64
  · refine .inl ?_
    rw [isField, decide_eq_false_iff_not, split] at h
    by_cases hb : inB q 2 64 = true
    · obtain ⟨h2, _⟩ := inB_true.1 hb
      obtain ⟨n, rfl⟩ := Int.eq_ofNat_of_zero_le (show 0 ≤ q by omega)
      rw [if_pos hb, Int.toNat_natCast] at h
      have t1 := pp_table n (by omega)
      have t2 := size_table n (by omega) (by omega)
      rw [ppI, facs, if_pos (inB_yes (by omega) (by omega)), Int.toNat_natCast]
      rcases t1 with t1 | t1
      · rw [t1]
        simp only [sizeOk, Bool.or_eq_true, Bool.and_eq_true, decide_eq_true_eq, beq_iff_eq] at t2
        omega
      · omega
    · have h2 : q < 2 := by
        rcases Int.lt_or_le q 2 with h | h
        · exact h
        · exact absurd (inB_yes h (by omega)) hb
      rw [ppI, facs]
      by_cases h1 : inB q 1 1000000 = true
      · obtain ⟨h3, _⟩ := inB_true.1 h1
        obtain rfl : q = 1 := by omega
        rw [if_pos h1]
        decide
      · rw [if_neg h1]; rfl
theorem leastN_spec {q p : Int} {k : Nat} (h : SizeOk q p k) : leastN p k < 64 ∧ irr (polyAt p k (leastN p k)) p = true ∧ ∀ m, m < leastN p k → irr (polyAt p k m) p = false := by
  obtain ⟨n, hn, hi⟩ := h.some_
  unfold leastN
  cases hf : (List.range 64).find? (fun n => irr (polyAt p k n) p) with
  | none =>
    rw [List.find?_eq_none] at hf
    exact absurd hi (hf n (List.mem_range.2 hn))
  | some m =>
    rw [Option.getD_some]
    have h1 := List.find?_some hf
    have h2 := List.mem_of_find?_eq_some hf
    rw [List.mem_range] at h2
    refine ⟨h2, h1, fun j hj => ?_⟩
    rw [List.find?_range_eq_some] at hf
    have := hf.2.2 j hj
    simpa using this
end Go.Proofs.Ytkbppgpegljcoaa
