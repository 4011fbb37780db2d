/-
  Texts joined.
-/
import Derived.Lib.OwnBridge
import Derived.Shelf.SlicesE.Delete
import Derived.Test.YtgmgpcaahanmiaaY4
import Derived.Test.YtgmgpcaahanmiaaY20
set_option linter.unusedVariables false
set_option linter.unusedSimpArgs false
set_option maxRecDepth 100000
set_option maxHeartbeats 40000000
namespace Go.Proofs.Ytgmgpcaahanmiaa
open Go.RowKit Go.Sort Go.Lib
def eDelete_ren : Go.Shelf.Ren := ⟨fun | 45 => 141 | n => n, fun | 22 => 35 | 23 => 22 | 3 => 3 | 4 => 4 | 0 => 0 | n => n, fun | n => n⟩
theorem eDelete : Go.Proofs.SlLaysE.n45 Try.prog eDelete_ren := {
 mixed := by kernel_rfl
 f45 := ⟨Try.f141.name, by decide, Try.func141.trans (congrArg some (by kernel_rfl))⟩
 t0 := Try.underlying0
 a0 := Try.isAgg0
 z0 := Try.sizeOf0
 v0 := Try.zeroValue0
 t3 := Try.underlying3
 a3 := Try.isAgg3
 z3 := Try.sizeOf3
 v3 := Try.zeroValue3
 t4 := Try.underlying4
 a4 := Try.isAgg4
 z4 := Try.sizeOf4
 v4 := Try.zeroValue4
 t22 := Try.underlying35
 a22 := Try.isAgg35
 z22 := Try.sizeOf35
 v22 := Try.zeroValue35
 a23 := Try.isAgg22
 z23 := Try.sizeOf22 }
def encR (x : Option Addr × Nat × Nat) : Value := .slice x.1 x.2.1 x.2.2
def decR : Value → Option Addr × Nat × Nat
 | .slice a n c => (a, n, c)
 | _ => (none, 0, 0)
theorem grownBy_putR {w : World} {g q : Nat} (d : Array (Option Addr × Nat × Nat)) : w.grownBy (putRow encR (Sort.ahead w q) g 0 d) (some g) := by
 refine ⟨rfl, rfl, rfl, by simp, fun k hk hne => ?_⟩
 have : g ≠ k := fun e => hne (by rw [e])
 simp [putRow, mapBlock, Sort.ahead, Array.getElem?_modify, this]
theorem delete_row {w : World} {B g c i : Nat} {xss : List (List Int)} {Q : Value → Prop} (h : OwnSQ w B (.slice (some ⟨g, 0, none⟩) xss.length c) xss Q) (hi : i < xss.length) :
    Calls Try.prog 141 #[.slice (some ⟨g, 0, none⟩) xss.length c, .int .i64 (i : Int), .int .i64 ((i + 1 : Nat) : Int)] w fun e w' => e = .returned (.slice (some ⟨g, 0, none⟩) (xss.length - 1) c) ∧ OwnSQ w' B (.slice (some ⟨g, 0, none⟩) (xss.length - 1) c) (xss.eraseIdx i) (fun x => Q x ∧ ∀ k, x.ownBlock = some k → ∀ y, w.cell? ⟨g, i, none⟩ = some y → y.ownBlock ≠ some k) ∧ w.grownBy w' (some g) := by
 have hfr := h.own.frozen
 obtain ⟨hl, vs, hr, hin, hQ⟩ := h
 have hvl := hin.1
 have hvs : vs = (vs.map decR).map encR := by
  rw [List.map_map]
  apply List.ext_getElem?
  intro k
  rw [List.getElem?_map]
  cases hk : vs[k]? with
  | none => rfl
  | some x =>
   obtain ⟨a, cc, e, _⟩ := (hin.2.1 k x hk).form
   rw [e]; rfl
 obtain ⟨zs, hzs⟩ : ∃ zs, zs = vs.map decR := ⟨_, rfl⟩
 rw [← hzs] at hvs
 have hzl : zs.length = xss.length := by rw [hzs, List.length_map, hvl]
 have hr0 := hr
 rw [hvs] at hr
 obtain ⟨i0, hi0, hz0, hz1, hz2⟩ := info_parts Try.info_row
 have hcap : xss.length ≤ c ∧ c ≤ 9223372036854775807 := by
  rcases hr.2 with ⟨e, _⟩ | ⟨g', cap', cur, e, _, _, hn, hm, _⟩
  · cases e
  · injection e with _ _ e
    unfold maxLen at hm
    omega
 have hH : Sort.Holds encR w g 0 zs.toArray := fun j hj => by
  simp only [List.size_toArray] at hj
  refine ⟨?_, by rw [Nat.zero_add]; exact hfr j⟩
  rw [Nat.zero_add, hr.cellAt j (by omega), List.getElem?_map, List.getElem?_eq_getElem hj]
  simp [getElem!_pos, hj]
 have key := AnyE.slices_Delete eDelete encR (fun _ => rfl) ((none, 0, 0) : Option Addr × Nat × Nat) Try.zeroValue22 i0 hi0 hz1 g 0 c i (i + 1) zs.toArray w hH (by simp only [List.size_toArray]; omega) hcap.2 (by omega) (by simp only [List.size_toArray]; omega)
 simp only [List.size_toArray, hzl] at key
 refine key.mono ?_
 rintro e w' ⟨rfl, q, rfl⟩
 obtain ⟨ys, hys⟩ : ∃ ys, ys = zs.take i ++ zs.drop (i + 1) ++ List.replicate (i + 1 - i) ((none, 0, 0) : Option Addr × Nat × Nat) := ⟨_, rfl⟩
 have hyl : ys.length = xss.length := by rw [hys]; simp; omega
 have hyt : ys.take (xss.length - 1) = zs.eraseIdx i := by
  rw [hys, List.eraseIdx_eq_take_drop_succ, List.take_left' (by simp; omega)]
 have hg := grownBy_putR (w := w) (g := g) (q := q) ys.toArray
 have ho := ownsRow_putRow (q := q) (k := xss.length - 1) hr hyl (by omega)
 rw [hyt] at ho
 rw [← hys]
 refine ⟨by rw [show xss.length - (i + 1 - i) = xss.length - 1 by omega], ⟨by rw [List.length_eraseIdx]; split <;> omega, zs.eraseIdx i |>.map encR, ?_, ⟨?_, ?_, ?_⟩, ?_⟩, hg⟩
 · have : (xss.eraseIdx i).length = xss.length - 1 := by rw [List.length_eraseIdx, if_pos hi]
   rw [this]; exact ho
 · simp [List.length_eraseIdx, hzl]
 · intro k x hx
   rw [List.getElem?_map, List.getElem?_eraseIdx] at hx
   have hk : ∃ k', vs[k']? = some x ∧ nthL (xss.eraseIdx i) k = nthL xss k' := by
    have hn : ∀ (l : List (List Int)) (j : Nat), nthL l j = l[j]?.getD [] := fun l j => by simp [nthL]
    simp only [hn, List.getElem?_eraseIdx]
    split at hx
    · rename_i hlt
      exact ⟨k, by rw [hvs, List.getElem?_map]; exact hx, by rw [if_pos hlt]⟩
    · rename_i hlt
      exact ⟨k + 1, by rw [hvs, List.getElem?_map]; exact hx, by rw [if_neg hlt]⟩
   obtain ⟨k', h1, h2⟩ := hk
   rw [h2]
   have ho := hin.2.1 k' x h1
   exact ho.grow hg (by
    rcases hxb : x.ownBlock with _ | b
    · exact .inl rfl
    · exact .inr fun e => Own.notSliceBlock hr0 ho b hxb e.symm)
 · intro k1 k2 x y b hne hx hy hb
   rw [List.getElem?_map, List.getElem?_eraseIdx] at hx hy
   have find : ∀ k z, ((if k < i then zs[k]? else zs[k + 1]?).map encR) = some z → vs[if k < i then k else k + 1]? = some z := fun k z h => by
    rw [hvs, List.getElem?_map, ← h]
    by_cases hk : k < i
    · rw [if_pos hk, if_pos hk]
    · rw [if_neg hk, if_neg hk]
   refine hin.2.2 _ _ x y b ?_ (find k1 x hx) (find k2 y hy) hb
   split <;> split <;> omega
 · intro k x hx
   rw [List.getElem?_map, List.getElem?_eraseIdx] at hx
   have find : vs[if k < i then k else k + 1]? = some x := by
    rw [hvs, List.getElem?_map, ← hx]
    by_cases hk : k < i
    · rw [if_pos hk, if_pos hk]
    · rw [if_neg hk, if_neg hk]
   refine ⟨hQ _ x find, fun b hb y hy => ?_⟩
   rw [hr0.cellAt i (by omega)] at hy
   exact hin.2.2 _ i x y b (by split <;> omega) find hy hb
theorem OwnS.growFar {w w' : World} {B g1 : Nat} {v : Value} {xss : List (List Int)} (h : OwnS w B v xss) (hg : w.grownBy w' (some g1)) (hlt : g1 < B) : OwnS w' B v xss := by
 obtain ⟨hl, vs, hr, hin⟩ := h
 have ne : ∀ x : Value, (∀ k, x.ownBlock = some k → B ≤ k) → x.ownBlock = none ∨ x.ownBlock ≠ some g1 := fun x hx => by
  rcases hxb : x.ownBlock with _ | b
  · exact .inl rfl
  · refine .inr fun e => ?_
    injection e with e
    have := hx b hxb
    omega
 exact ⟨hl, vs, hr.kept hg (ne v fun k hk => (hr.lt k hk).1), hin.1, fun i x hx => (hin.2.1 i x hx).grow hg (ne x fun k hk => ((hin.2.1 i x hx).lt k hk).1), hin.2.2⟩
end Go.Proofs.Ytgmgpcaahanmiaa
