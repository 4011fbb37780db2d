/-
  Texts joined.
-/
import Derived.Deep.DeepCutAuto
import Derived.Deep.DrawnRows
import Derived.Deep.RegionHeld3
import Derived.Test.YtkiljcbejmiioaaGreatLK1
import Derived.Test.YtkiljcbejmiioaaGreatLK5
set_option linter.unusedVariables false
set_option linter.unusedSimpArgs false
set_option maxRecDepth 100000
set_option maxHeartbeats 40000000
namespace Go.Proofs.YtkiljcbejmiioaaGreat
open Go.RowKit
attribute [local go_sem ↓] Go.wp_at_zero Go.wp_at_succ
def putToV (n : Int) (xs : List Int) : Nat → List Int × Bool
 | 0 => ([], false)
 | k + 1 => if (putToV n xs k).2 = false ∧ n ≤ nth xs k then ((putToV n xs k).1 ++ (if n < nth xs k then [n] else []) ++ [nth xs k], true) else ((putToV n xs k).1 ++ [nth xs k], (putToV n xs k).2)
def putV (n : Int) (xs : List Int) : List Int := (putToV n xs xs.length).1 ++ (if (putToV n xs xs.length).2 = false then [n] else [])
theorem putToV_len (n : Int) (xs : List Int) : ∀ k, (putToV n xs k).1.length ≤ 2 * k
 | 0 => by simp [putToV]
 | k + 1 => by
  have ih := putToV_len n xs k
  rw [putToV]
  split
  · split <;> simp <;> omega
  · simp; omega
theorem putToV_all {P : Int → Prop} {n : Int} {xs : List Int} (hn : P n) (hx : ∀ x ∈ xs, P x) : ∀ k, k ≤ xs.length → ∀ y ∈ (putToV n xs k).1, P y
 | 0, _, y, hy => by simp [putToV] at hy
 | k + 1, hk, y, hy => by
  have ih := putToV_all hn hx k (by omega)
  have hk' : P (nth xs k) := hx _ (nth_mem (by omega))
  rw [putToV] at hy
  split at hy
  · rcases List.mem_append.1 hy with h | h
    · rcases List.mem_append.1 h with h | h
      · exact ih y h
      · split at h
        · rw [List.mem_singleton.1 h]; exact hn
        · simp at h
    · rw [List.mem_singleton.1 h]; exact hk'
  · rcases List.mem_append.1 hy with h | h
    · exact ih y h
    · rw [List.mem_singleton.1 h]; exact hk'
theorem putV_all {P : Int → Prop} {n : Int} {xs : List Int} (hn : P n) (hx : ∀ x ∈ xs, P x) : ∀ y ∈ putV n xs, P y := fun y hy => by
 rcases List.mem_append.1 hy with h | h
 · exact putToV_all hn hx _ (Nat.le_refl _) y h
 · split at h
   · rw [List.mem_singleton.1 h]; exact hn
   · simp at h
theorem putToV_len1 (n : Int) (xs : List Int) : ∀ k, (putToV n xs k).1.length ≤ k + (if (putToV n xs k).2 = true then 1 else 0)
 | 0 => by simp [putToV]
 | k + 1 => by
  have ih := putToV_len1 n xs k
  rw [putToV]
  split
  · rename_i h
    rw [h.1] at ih
    split <;> simp at ih ⊢ <;> omega
  · simp only [List.length_append, List.length_singleton]
    omega
theorem putV_len (n : Int) (xs : List Int) : (putV n xs).length ≤ xs.length + 1 := by
 have := putToV_len1 n xs xs.length
 rw [putV, List.length_append]
 cases h : (putToV n xs xs.length).2 <;> rw [h] at this <;> simp at this ⊢ <;> omega
theorem l00PutV_any (a : Option Addr) (c : Nat) (xs : List Int) (n : Int) (w : World) (hx : Rd w a xs) (hn : xs.length ≤ 1000000) :
    Calls Tryz.prog 112 #[.slice a xs.length c, .int .i64 n] w fun e w' => ∃ v, e = .returned v ∧ Own w' w.heap.size v (putV n xs) ∧ Below w.heap.size w w' := by
 have hxl := hx.len
 have HX := hide hx
 clear hx
 go_enter Tryz.func112, Tryz.ntmps112
 go_wp2_with fail
 go_loopw [5, 6, 7] (fun v5 dv iv wr => ∃ i : Nat, iv = .int .i64 i ∧ dv = .bool (putToV n xs i).2 ∧ i ≤ xs.length ∧ Hid (Own wr w.heap.size v5 (putToV n xs i).1) ∧ Below w.heap.size w wr) (fun _ _ iv _ => xs.length - (intOf iv).toNat)
 case atStart => exact ⟨0, rfl, rfl, Nat.zero_le _, Own.empty w (Nat.le_refl _), (Below.refl _ _).alloc (Nat.le_refl _) _⟩
 case round =>
  obtain ⟨i, rfl, rfl, hi, ho, hb⟩ := hrel
  have hsz := hb.size
  have hpl := putToV_len n xs i
  by_cases hil : i < xs.length
  · obtain ⟨b1, o1, rfl, hbb, hcx⟩ := (unhide HX).at_ (by omega)
    have hx0 := hcx i hil
    have hst : putToV n xs (i + 1) = if (putToV n xs i).2 = false ∧ n ≤ nth xs i then ((putToV n xs i).1 ++ (if n < nth xs i then [n] else []) ++ [nth xs i], true) else ((putToV n xs i).1 ++ [nth xs i], (putToV n xs i).2) := rfl
    obtain ⟨x, hxx⟩ : ∃ x, x = nth xs i := ⟨_, rfl⟩
    obtain ⟨L, hL⟩ : ∃ L, L = (putToV n xs i).1 := ⟨_, rfl⟩
    rw [← hxx] at hx0 hst
    rw [← hL] at ho hst hpl
    have hx1 := (hb.cell (p := ⟨b1, o1 + i, none⟩) hbb).trans hx0
    have HX0 := hide hx0
    have hlt : ∀ u : Value, ∀ W : World, ∀ M : List Int, Own W w.heap.size u M → ∀ q, u.ownBlock = some q → w.heap.size ≤ q := fun u W M h q hq => (h.lt q hq).1
    have HLT := hide hlt
    obtain ⟨a5, c5, rfl, _, _⟩ := ho.out.form
    cases hd : (putToV n xs i).2 with
    | true =>
     have hst2 : putToV n xs (i + 1) = (L ++ [x], true) := by rw [hst, hd, if_neg (by simp)]
     have HST := Lib.hid hst2
     clear hcx hxx hL hst hst2 hd hx0 hlt
     go_wp2_with (at_builtin; refine wpList_append_ints rfl (.tmp 35) (.tmp 40) rfl w.heap.size _ L [x] rfl (ho.out.alloc _) _ 1 1 rfl rfl (Rd.one wr x _) (by simp; omega) (by simp; omega) ?_; intro v5 w5 o5 g5 _)
     go_roundw
     case rel => exact ⟨i + 1, by go_num, by rw [HST.out], by omega, by rw [HST.out]; exact o5, (hb.alloc (by omega) _).grown g5 (by simp; omega) (fun q hq => unhide HLT _ _ _ ho.out q hq)⟩
     case measure => simp only [intOf]; omega
    | false =>
     by_cases h1 : n ≤ x
     · have e1 : decide (n ≤ x) = true := decide_eq_true h1
       by_cases h2 : n < x
       · have e2 : decide (n < x) = true := decide_eq_true h2
         have hst2 : putToV n xs (i + 1) = (L ++ [n] ++ [x], true) := by rw [hst, hd, if_pos ⟨rfl, h1⟩, if_pos h2]
         have HST := Lib.hid hst2
         clear hcx hxx hL hst hst2 hd hx0 hlt h1 h2
         go_wp2_with (first
          | (at_builtin; refine wpList_append_ints rfl (.tmp 31) (.tmp 33) rfl w.heap.size _ L [n] rfl (ho.out.alloc _) _ 1 1 rfl rfl (Rd.one wr n _) (by simp; omega) (by simp; omega) ?_; intro v6 w6 o6 g6 _; have b6 := (hb.alloc (by omega) (.cells #[.int .i64 n] 2)).grown g6 (by simp; omega) (fun q hq => unhide HLT _ _ _ ho.out q hq); have hx1 := (b6.cell (p := ⟨b1, o1 + i, none⟩) hbb).trans (unhide HX0); have b6s := b6.size; obtain ⟨a6, c6, rfl, _, _⟩ := o6.form; rw [show (L ++ [n]).length = L.length + 1 by simp] at o6)
          | (at_builtin; refine wpList_append_ints rfl (.tmp 35) (.tmp 40) rfl w.heap.size _ (L ++ [n]) [x] rfl (o6.alloc _) _ 1 1 rfl rfl (Rd.one w6 x _) (by simp; omega) (by simp; omega) ?_; intro v5 w5 o5 g5 _))
         go_roundw
         case rel => exact ⟨i + 1, by go_num, by rw [HST.out], by omega, by rw [HST.out]; exact o5, (b6.alloc (by omega) _).grown g5 (by simp; omega) (fun q hq => unhide HLT _ _ _ o6 q hq)⟩
         case measure => simp only [intOf]; omega
       · have e2 : decide (n < x) = false := by rw [decide_eq_false_iff_not]; exact h2
         have hst2 : putToV n xs (i + 1) = (L ++ [x], true) := by rw [hst, hd, if_pos ⟨rfl, h1⟩, if_neg h2, List.append_nil]
         have HST := Lib.hid hst2
         clear hcx hxx hL hst hst2 hd hx0 hlt h1 h2
         go_wp2_with (at_builtin; refine wpList_append_ints rfl (.tmp 35) (.tmp 40) rfl w.heap.size _ L [x] rfl (ho.out.alloc _) _ 1 1 rfl rfl (Rd.one wr x _) (by simp; omega) (by simp; omega) ?_; intro v5 w5 o5 g5 _)
         go_roundw
         case rel => exact ⟨i + 1, by go_num, by rw [HST.out], by omega, by rw [HST.out]; exact o5, (hb.alloc (by omega) _).grown g5 (by simp; omega) (fun q hq => unhide HLT _ _ _ ho.out q hq)⟩
         case measure => simp only [intOf]; omega
     · have e1 : decide (n ≤ x) = false := by rw [decide_eq_false_iff_not]; exact h1
       have hst2 : putToV n xs (i + 1) = (L ++ [x], false) := by rw [hst, hd, if_neg (fun h => h1 h.2)]
       have HST := Lib.hid hst2
       clear hcx hxx hL hst hst2 hd hx0 hlt h1
       go_wp2_with (at_builtin; refine wpList_append_ints rfl (.tmp 35) (.tmp 40) rfl w.heap.size _ L [x] rfl (ho.out.alloc _) _ 1 1 rfl rfl (Rd.one wr x _) (by simp; omega) (by simp; omega) ?_; intro v5 w5 o5 g5 _)
       go_roundw
       case rel => exact ⟨i + 1, by go_num, by rw [HST.out], by omega, by rw [HST.out]; exact o5, (hb.alloc (by omega) _).grown g5 (by simp; omega) (fun q hq => unhide HLT _ _ _ ho.out q hq)⟩
       case measure => simp only [intOf]; omega
  · have hie : i = xs.length := by omega
    rw [hie] at ho
    have hp : putV n xs = (putToV n xs xs.length).1 ++ (if (putToV n xs xs.length).2 = false then [n] else []) := rfl
    have hpl2 := putToV_len n xs xs.length
    rw [hie]
    obtain ⟨L, hL⟩ : ∃ L, L = (putToV n xs xs.length).1 := ⟨_, rfl⟩
    rw [← hL] at ho hp hpl2
    obtain ⟨a5, c5, rfl, _, _⟩ := ho.out.form
    have hlt : ∀ q, Value.ownBlock (.slice a5 L.length c5) = some q → w.heap.size ≤ q := fun q hq => (ho.out.lt q hq).1
    have HLT := hide hlt
    cases hd : (putToV n xs xs.length).2 with
    | true =>
     rw [hd, if_neg (by simp), List.append_nil] at hp
     have HP := Lib.hid hp
     clear hp hL hd hie hlt hil hpl
     go_wp2_with fail
     go_ret
     exact ⟨_, rfl, by rw [HP.out]; exact ho.out, hb⟩
    | false =>
     rw [hd, if_pos rfl] at hp
     have HP := Lib.hid hp
     clear hp hL hd hie hlt hil hpl
     go_wp2_with (at_builtin; refine wpList_append_ints rfl (.tmp 44) (.tmp 46) rfl w.heap.size _ L [n] rfl (ho.out.alloc _) _ 1 1 rfl rfl (Rd.one wr n _) (by simp; omega) (by simp; omega) ?_; intro v5 w5 o5 g5 _)
     go_ret
     exact ⟨_, rfl, by rw [HP.out]; exact o5, (hb.alloc (by omega) _).grown g5 (by simp; omega) (fun q hq => unhide HLT q hq)⟩
end Go.Proofs.YtkiljcbejmiioaaGreat
