/-
  Texts joined.
-/
import Derived.Test.YtpglmogoddgmoaaJD7
import Derived.Test.YtpglmogoddgmoaaJD8
import Derived.Test.YtpglmogoddgmoaaJD10
import Derived.Test.YtpglmogoddgmoaaJD14
set_option linter.unusedVariables false
set_option linter.unusedSimpArgs false
set_option maxRecDepth 100000
set_option maxHeartbeats 40000000
namespace Go.Proofs.Ytpglmogoddgmoaa
open Go.RowKit
attribute [local go_sem ↓] Go.wp_at_zero Go.wp_at_succ
theorem fdOf_good {q : Int} (h : isField q = true) : (fdOf q).Good := by
 obtain ⟨ok, hq, hs⟩ := fdOf_ok h
 exact ⟨ok, by rw [hq]; exact hs⟩
end Go.Proofs.Ytpglmogoddgmoaa
namespace Go.Proofs.Ytpglmogoddgmoaa
open Go.RowKit
attribute [local go_sem ↓] Go.wp_at_zero Go.wp_at_succ
theorem Own.mk {w w' : World} {B g : Nat} {v : Value} {xs : List Int} (h : Own w B v xs) (m : Mk w w' g (g + 1)) (hB : g < B) : Own w' B v xs := (h.toH.kp (m.kp (.inr (by omega)) (Nat.le_refl _))).1
theorem OwnS.mk {w w' : World} {B g : Nat} {v : Value} {xss : List (List Int)} (h : OwnS w B v xss) (m : Mk w w' g (g + 1)) (hB : g < B) : OwnS w' B v xss := (h.toH.kp (m.kp (.inr (by omega)) (Nat.le_refl _))).own
theorem Mk.own {w a b : World} {lo hi k : Nat} (h : Mk w a lo hi) (hg : a.grownBy b (some k)) (hk : w.heap.size ≤ k) (hlo : lo ≤ w.heap.size) : Mk w b lo hi :=
 ⟨h.1.grown hg (by have := h.size; omega) (fun q hq => by injection hq; omega), fun c hc hcw => (hg.block c (by have := h.size; omega) (fun e => by injection e; omega)).trans (h.2 c hc hcw)⟩
theorem Mk.new {w a b : World} {lo hi : Nat} (h : Mk w a lo hi) (hb : Below w.heap.size a b) (hlo : lo ≤ w.heap.size) : Mk w b lo hi := ⟨h.1.trans (hb.mono hlo), fun c hc hcw => (hb.block c hcw).trans (h.2 c hc hcw)⟩
theorem Mk.app {w a b : World} {lo hi B : Nat} {v : Value} {xs : List Int} (h : Mk w a lo hi) (hg : a.grownBy b v.ownBlock) (ho : Own a B v xs) (hB : w.heap.size ≤ B) (hlo : lo ≤ w.heap.size) : Mk w b lo hi := by
 cases e : v.ownBlock with
 | none =>
  rw [e] at hg
  refine ⟨h.1.grown hg (by have := h.size; omega) (fun q hq => by simp at hq), fun c hc hcw => (hg.block c (by have := h.size; omega) (by simp)).trans (h.2 c hc hcw)⟩
 | some k =>
  rw [e] at hg
  exact h.own hg (by have := (ho.lt k e).1; omega) hlo
theorem Src.keep {w w' : World} {g T B : Nat} (h : Src w g T) (hb : Below B w w') (hB : g < B) : Src w' g T := h.kp ⟨hb.size, fun c _ hc => hb.block c (by omega)⟩
theorem RdS.row_same {w : World} {a : Option Addr} {xss : List (List Int)} {b o : Nat} (h : RdS w a xss) (ha : a = some ⟨b, o, none⟩) {i : Nat} (hi : i < xss.length) {ai : Option Addr} {n ci : Nat} (hc : w.cell? ⟨b, o + i, none⟩ = some (.slice ai n ci)) : Rd w ai (nthL xss i) := by
 obtain ⟨b', o', e, _, hcc⟩ := h.at_ (by omega)
 rw [ha] at e
 injection e with e
 injection e with e1 e2
 subst e1
 subst e2
 obtain ⟨a', c', h1, h2⟩ := hcc i hi
 rw [hc] at h1
 injection h1 with h1
 injection h1 with h1 _ _
 subst h1
 exact h2
def lenV : Value → Nat
 | .slice _ n _ => n
 | _ => 0
def VecD (w : World) (g T : Nat) (F : FD) (n : Nat) (e : Ending) (w' : World) : Prop :=
 ∃ (v : Value) (xs : List Int), e = .returned v ∧ xs.length = n ∧ (∀ x ∈ xs, 0 ≤ x ∧ x < F.n) ∧ Own w' w.heap.size v xs ∧ Src w' g T ∧ Mk w w' g (g + 1)
theorem drawVector_any (g T gF : Nat) (F : FD) (n : Nat) (w : World) (h : Src w g T) (hn : n ≤ 1000) (hT : T ≤ 1000000000) (hF : ∀ w', Mk w w' g (g + 1) → PF w' gF F) (ok : F.Ok) :
    Calls Try.prog 70 #[.pointer (some ⟨g, 0, none⟩), .pointer (some ⟨gF, 0, none⟩), .int .i64 n] w (VecD w g (T + 4 * n) F n) := by
 obtain ⟨n2, n64⟩ := ok.n_bd
 have hlt := h.lt
 have HF := hide hF
 have HS := hide h
 clear hF h
 go_enter Try.func70, Try.ntmps70
 go_wp2_with fail
 go_loopw [2, 7] (fun mv v wr => ∃ (m : Nat) (xs : List Int), mv = .int .i64 m ∧ m ≤ n ∧ xs.length + m = n ∧ Hid (∀ x ∈ xs, 0 ≤ x ∧ x < F.n) ∧ Hid (Own wr w.heap.size v xs) ∧ Src wr g (T + 4 * xs.length) ∧ Mk w wr g (g + 1)) (fun mv _ _ => (intOf mv).toNat)
 case atStart => exact ⟨n, [], rfl, Nat.le_refl _, by simp, by show ∀ x ∈ ([] : List Int), _; simp, Own.empty w (Nat.le_refl _), ((unhide HS).below ((Below.refl _ _).alloc (Nat.le_refl _) _)).mono (by omega), Mk.alloc ((Below.refl _ _).alloc (Nat.le_refl _) _) (by omega)⟩
 case round =>
  obtain ⟨m, xs, rfl, hm, hl, he, ho, hs, hmk⟩ := hrel
  have hsz := hmk.size
  by_cases hm0 : 0 < m
  · obtain ⟨m, rfl⟩ : ∃ k, m = k + 1 := ⟨m - 1, by omega⟩
    obtain ⟨v7, rfl⟩ : ∃ v7, v7 = u7 := ⟨_, rfl⟩
    go_wp2_with fail
    refine (l03Size_any gF F wr (unhide HF _ hmk) ok).mono ?_
    rintro e w1 ⟨rfl, b1⟩
    have m1 := hmk.new (b1.mono hsz) (by omega)
    have s1 := hs.below b1
    have o1 := ho.out.below b1 (Nat.le_refl _)
    go_wp2_with fail
    refine (pick_any g (T + 4 * xs.length) F.n w1 s1 (by omega)).mono ?_
    rintro e w2 ⟨x, rfl, hx, hx2, s2, k2⟩
    have m2 := m1.trans k2
    have o2 := o1.mk k2 hlt
    have hxn : (x : Int) < F.n := by rcases hx with h | h <;> omega
    go_wp2_with fail
    refine (one_any g (T + 4 * xs.length + 2) 3 w2 s2 (by omega)).mono ?_
    rintro e w3 ⟨b, rfl, s3, k3⟩
    have m3 := m2.trans k3
    have o3 := o2.mk k3 hlt
    have z3 := m3.size
    clear hs s1 s2 o1 o2 m1 m2 k2 k3 hmk
    have HO := Lib.hid o3
    clear o3
    cases b with
    | true =>
     go_wp2_with (at_builtin; refine wpList_append_ints rfl (.tmp 20) (.tmp 22) rfl w.heap.size v7 xs [0] rfl (HO.out.alloc _) _ 1 1 rfl rfl (Rd.one w3 0 _) (by simp; omega) (by simp; omega) ?_; intro v1 w4 o4 g4 _)
     go_roundw
     case rel =>
      have b4 : Below w.heap.size w3 w4 := Below.step ((Below.refl _ _).alloc z3 _) g4 (HO.out.alloc _) (Nat.le_refl _) (by simp; omega)
      refine ⟨m, xs ++ [0], by go_num, by omega, by simp; omega, ?_, o4, (s3.keep b4 hlt).mono (by simp; omega), m3.new b4 (by omega)⟩
      intro y hy
      rcases List.mem_append.1 hy with h | h
      · exact he.out y h
      · rw [List.mem_singleton.1 h]; omega
     case measure => simp only [intOf]; omega
    | false =>
     go_wp2_with (at_builtin; refine wpList_append_ints rfl (.tmp 20) (.tmp 22) rfl w.heap.size v7 xs [(x : Int)] rfl (HO.out.alloc _) _ 1 1 rfl rfl (Rd.one w3 x _) (by simp; omega) (by simp; omega) ?_; intro v1 w4 o4 g4 _)
     go_roundw
     case rel =>
      have b4 : Below w.heap.size w3 w4 := Below.step ((Below.refl _ _).alloc z3 _) g4 (HO.out.alloc _) (Nat.le_refl _) (by simp; omega)
      refine ⟨m, xs ++ [(x : Int)], by go_num, by omega, by simp; omega, ?_, o4, (s3.keep b4 hlt).mono (by simp; omega), m3.new b4 (by omega)⟩
      intro y hy
      rcases List.mem_append.1 hy with h | h
      · exact he.out y h
      · rw [List.mem_singleton.1 h]; omega
     case measure => simp only [intOf]; omega
  · have hme : m = 0 := by omega
    subst hme
    go_wp2
    go_ret
    exact ⟨_, xs, rfl, by omega, he.out, ho.out, hs.mono (by omega), hmk⟩
end Go.Proofs.Ytpglmogoddgmoaa
