/-
  Texts joined.
-/
import Derived.Test.YtkiljcbejmiioaaGreatLK4
import Derived.Test.YtkiljcbejmiioaaGreatLK5
import Derived.Test.YtkiljcbejmiioaaGreatLK6
import Derived.Test.YtkiljcbejmiioaaGreatLK7
import Derived.Test.YtkiljcbejmiioaaGreatLK9
import Derived.Test.YtkiljcbejmiioaaGreatLK15
import Derived.Test.YtkiljcbejmiioaaGreatLK22
import Derived.Test.YtkiljcbejmiioaaGreatLK35
import Derived.Test.YtkiljcbejmiioaaGreatLK37
set_option linter.unusedVariables false
set_option linter.unusedSimpArgs false
set_option maxRecDepth 100000
set_option maxHeartbeats 40000000
namespace Go.Proofs.YtkiljcbejmiioaaGreat
open Go.RowKit
attribute [local go_sem ↓] Go.wp_at_zero Go.wp_at_succ
theorem Own.mk {w w' : World} {B g : Nat} {v : Value} {xs : List Int} (h : Own w B v xs) (m : Mk w w' g (g + 1)) (hB : g < B) : Own w' B v xs := (h.toH.kp (m.kp (.inr (by omega)) (Nat.le_refl _))).1
theorem OwnS.mk {w w' : World} {B g : Nat} {v : Value} {xss : List (List Int)} (h : OwnS w B v xss) (m : Mk w w' g (g + 1)) (hB : g < B) : OwnS w' B v xss := (h.toH.kp (m.kp (.inr (by omega)) (Nat.le_refl _))).own
theorem Mk.own {w a b : World} {lo hi k : Nat} (h : Mk w a lo hi) (hg : a.grownBy b (some k)) (hk : w.heap.size ≤ k) (hlo : lo ≤ w.heap.size) : Mk w b lo hi :=
 ⟨h.1.grown hg (by have := h.size; omega) (fun q hq => by injection hq; omega), fun c hc hcw => (hg.block c (by have := h.size; omega) (fun e => by injection e; omega)).trans (h.2 c hc hcw)⟩
theorem Mk.new {w a b : World} {lo hi : Nat} (h : Mk w a lo hi) (hb : Below w.heap.size a b) (hlo : lo ≤ w.heap.size) : Mk w b lo hi := ⟨h.1.trans (hb.mono hlo), fun c hc hcw => (hb.block c hcw).trans (h.2 c hc hcw)⟩
theorem Mk.app {w a b : World} {lo hi B : Nat} {v : Value} {xs : List Int} (h : Mk w a lo hi) (hg : a.grownBy b v.ownBlock) (ho : Own a B v xs) (hB : w.heap.size ≤ B) (hlo : lo ≤ w.heap.size) : Mk w b lo hi := by
 cases e : v.ownBlock with
 | none =>
  rw [e] at hg
  refine ⟨h.1.grown hg (by have := h.size; omega) (fun q hq => by simp at hq), fun c hc hcw => (hg.block c (by have := h.size; omega) (by simp)).trans (h.2 c hc hcw)⟩
 | some k =>
  rw [e] at hg
  exact h.own hg (by have := (ho.lt k e).1; omega) hlo
theorem Src.keep {w w' : World} {g T B : Nat} (h : Src w g T) (hb : Below B w w') (hB : g < B) : Src w' g T := h.kp ⟨hb.size, fun c _ hc => hb.block c (by omega)⟩
theorem RdS.row_same {w : World} {a : Option Addr} {xss : List (List Int)} {b o : Nat} (h : RdS w a xss) (ha : a = some ⟨b, o, none⟩) {i : Nat} (hi : i < xss.length) {ai : Option Addr} {n ci : Nat} (hc : w.cell? ⟨b, o + i, none⟩ = some (.slice ai n ci)) : Rd w ai (nthL xss i) := by
 obtain ⟨b', o', e, _, hcc⟩ := h.at_ (by omega)
 rw [ha] at e
 injection e with e
 injection e with e1 e2
 subst e1
 subst e2
 obtain ⟨a', c', h1, h2⟩ := hcc i hi
 rw [hc] at h1
 injection h1 with h1
 injection h1 with h1 _ _
 subst h1
 exact h2
def lenV : Value → Nat
 | .slice _ n _ => n
 | _ => 0
def VecD (w : World) (g T : Nat) (F : FD) (n : Nat) (e : Ending) (w' : World) : Prop :=
 ∃ (v : Value) (xs : List Int), e = .returned v ∧ xs.length = n ∧ (∀ x ∈ xs, 0 ≤ x ∧ x < F.n) ∧ Own w' w.heap.size v xs ∧ Src w' g T ∧ Mk w w' g (g + 1)
theorem drawVector_any (g T gF : Nat) (F : FD) (n : Nat) (w : World) (h : Src w g T) (hn : n ≤ 1000) (hT : T ≤ 1000000000) (hF : ∀ w', Mk w w' g (g + 1) → PF w' gF F) (ok : F.Ok) :
    Calls Tryz.prog 126 #[.pointer (some ⟨g, 0, none⟩), .pointer (some ⟨gF, 0, none⟩), .int .i64 n] w (VecD w g (T + 4 * n) F n) := by
 obtain ⟨n2, n64⟩ := ok.n_bd
 have hlt := h.lt
 have HF := hide hF
 have HS := hide h
 clear hF h
 go_enter Tryz.func126, Tryz.ntmps126
 go_wp2_with fail
 go_loopw [2, 7] (fun mv v wr => ∃ (m : Nat) (xs : List Int), mv = .int .i64 m ∧ m ≤ n ∧ xs.length + m = n ∧ Hid (∀ x ∈ xs, 0 ≤ x ∧ x < F.n) ∧ Hid (Own wr w.heap.size v xs) ∧ Src wr g (T + 4 * xs.length) ∧ Mk w wr g (g + 1)) (fun mv _ _ => (intOf mv).toNat)
 case atStart => exact ⟨n, [], rfl, Nat.le_refl _, by simp, by show ∀ x ∈ ([] : List Int), _; simp, Own.empty w (Nat.le_refl _), ((unhide HS).below ((Below.refl _ _).alloc (Nat.le_refl _) _)).mono (by omega), Mk.alloc ((Below.refl _ _).alloc (Nat.le_refl _) _) (by omega)⟩
 case round =>
  obtain ⟨m, xs, rfl, hm, hl, he, ho, hs, hmk⟩ := hrel
  have hsz := hmk.size
  by_cases hm0 : 0 < m
  · obtain ⟨m, rfl⟩ : ∃ k, m = k + 1 := ⟨m - 1, by omega⟩
    obtain ⟨v7, rfl⟩ : ∃ v7, v7 = u7 := ⟨_, rfl⟩
    go_wp2_with fail
    refine (l03Size_any gF F wr (unhide HF _ hmk) ok).mono ?_
    rintro e w1 ⟨rfl, b1⟩
    have m1 := hmk.new (b1.mono hsz) (by omega)
    have s1 := hs.below b1
    have o1 := ho.out.below b1 (Nat.le_refl _)
    go_wp2_with fail
    refine (pick_any g (T + 4 * xs.length) F.n w1 s1 (by omega)).mono ?_
    rintro e w2 ⟨x, rfl, hx, hx2, s2, k2⟩
    have m2 := m1.trans k2
    have o2 := o1.mk k2 hlt
    have hxn : (x : Int) < F.n := by rcases hx with h | h <;> omega
    go_wp2_with fail
    refine (one_any g (T + 4 * xs.length + 2) 3 w2 s2 (by omega)).mono ?_
    rintro e w3 ⟨b, rfl, s3, k3⟩
    have m3 := m2.trans k3
    have o3 := o2.mk k3 hlt
    have z3 := m3.size
    clear hs s1 s2 o1 o2 m1 m2 k2 k3 hmk
    have HO := Lib.hid o3
    clear o3
    cases b with
    | true =>
     go_wp2_with (at_builtin; refine wpList_append_ints rfl (.tmp 20) (.tmp 22) rfl w.heap.size v7 xs [0] rfl (HO.out.alloc _) _ 1 1 rfl rfl (Rd.one w3 0 _) (by simp; omega) (by simp; omega) ?_; intro v1 w4 o4 g4 _)
     go_roundw
     case rel =>
      have b4 : Below w.heap.size w3 w4 := Below.step ((Below.refl _ _).alloc z3 _) g4 (HO.out.alloc _) (Nat.le_refl _) (by simp; omega)
      refine ⟨m, xs ++ [0], by go_num, by omega, by simp; omega, ?_, o4, (s3.keep b4 hlt).mono (by simp; omega), m3.new b4 (by omega)⟩
      intro y hy
      rcases List.mem_append.1 hy with h | h
      · exact he.out y h
      · rw [List.mem_singleton.1 h]; omega
     case measure => simp only [intOf]; omega
    | false =>
     go_wp2_with (at_builtin; refine wpList_append_ints rfl (.tmp 20) (.tmp 22) rfl w.heap.size v7 xs [(x : Int)] rfl (HO.out.alloc _) _ 1 1 rfl rfl (Rd.one w3 x _) (by simp; omega) (by simp; omega) ?_; intro v1 w4 o4 g4 _)
     go_roundw
     case rel =>
      have b4 : Below w.heap.size w3 w4 := Below.step ((Below.refl _ _).alloc z3 _) g4 (HO.out.alloc _) (Nat.le_refl _) (by simp; omega)
      refine ⟨m, xs ++ [(x : Int)], by go_num, by omega, by simp; omega, ?_, o4, (s3.keep b4 hlt).mono (by simp; omega), m3.new b4 (by omega)⟩
      intro y hy
      rcases List.mem_append.1 hy with h | h
      · exact he.out y h
      · rw [List.mem_singleton.1 h]; omega
     case measure => simp only [intOf]; omega
  · have hme : m = 0 := by omega
    subst hme
    go_wp2
    go_ret
    exact ⟨_, xs, rfl, by omega, he.out, ho.out, hs.mono (by omega), hmk⟩
end Go.Proofs.YtkiljcbejmiioaaGreat
namespace Go.Proofs.YtkiljcbejmiioaaGreat
open Go.RowKit
attribute [local go_sem ↓] Go.wp_at_zero Go.wp_at_succ
def B3D (w : World) (a b c : Int) (e : Ending) (w' : World) : Prop := ∃ v xs, e = .returned v ∧ xs.length ≤ 3 ∧ (∀ P : Int → Prop, P a → P b → P c → ∀ x ∈ xs, P x) ∧ Own w' w.heap.size v xs ∧ Below w.heap.size w w'
theorem l11Block_any (a b c : Int) (w : World) : Calls Tryz.prog 139 #[.int .i64 a, .int .i64 b, .int .i64 c] w (B3D w a b c) := by
 obtain ⟨W1, hW1⟩ : ∃ z, z = w.alloc (.cells #[.int .i64 a] 2) := ⟨_, rfl⟩
 have b1 : Below w.heap.size w W1 := by rw [hW1]; exact (Below.refl _ _).alloc (Nat.le_refl _) _
 have h1 := l00PutV_any (some ⟨w.heap.size, 0, none⟩) 1 [a] b W1 (by rw [hW1]; exact Rd.one w a _) (by simp)
 have z1 := b1.size
 have HW := Lib.hid hW1
 have H1 := hide h1
 have hl1 := putV_len b [a]
 have ha1 : ∀ P : Int → Prop, P a → P b → ∀ x ∈ putV b [a], P x := fun P pa pb => putV_all pb (fun x hx => by rw [List.mem_singleton.1 hx]; exact pa)
 obtain ⟨L, hL⟩ : ∃ L, L = putV b [a] := ⟨_, rfl⟩
 rw [← hL] at H1 hl1 ha1
 have hl2 : L.length ≤ 2 := hl1
 have HA1 := hide ha1
 clear h1 hW1 hL hl1 ha1
 go_enter Tryz.func139, Tryz.ntmps139
 go_wp2_with fail
 rw [← HW.out]
 refine (unhide H1).mono ?_
 rintro e w2 ⟨v2, rfl, o2, b2⟩
 obtain ⟨a2, c2, rfl, r2, _⟩ := o2.form
 have H2 := hide (l00PutV_any a2 c2 L c w2 r2 (by omega))
 have hl3 := putV_len c L
 have HA3 := hide (fun (P : Int → Prop) (pc : P c) (hx : ∀ x ∈ L, P x) => putV_all (P := P) (n := c) (xs := L) pc hx)
 have b02 := b1.trans (b2.mono z1)
 go_wp2_with fail
 refine (unhide H2).mono ?_
 rintro e w3 ⟨v3, rfl, o3, b3⟩
 have z2 := b02.size
 go_wp2
 go_ret
 exact ⟨_, _, rfl, by omega, fun P pa pb pc => unhide HA3 P pc (unhide HA1 P pa pb), o3.mono z2, b02.trans (b3.mono z2)⟩
def LenD (w : World) (n : Nat) (e : Ending) (w' : World) : Prop := ∃ v p, e = .returned v ∧ p.length = n ∧ Own w' w.heap.size v p ∧ Below w.heap.size w w'
theorem l04One_any (n : Nat) (w : World) (hn : n ≤ 100) : Calls Tryz.prog 109 #[.int .i64 n] w (LenD w n) := by
 go_enter Tryz.func109, Tryz.ntmps109
 go_wp2_with fail
 go_loopw [3, 4] (fun v iv wr => ∃ (i : Nat) (X : List Int), iv = .int .i64 i ∧ i ≤ n ∧ Hid (X.length = i) ∧ Hid (Own wr w.heap.size v X) ∧ Below w.heap.size w wr) (fun _ iv _ => n - (intOf iv).toNat)
 case atStart => exact ⟨0, [], rfl, Nat.zero_le _, rfl, Own.empty w (Nat.le_refl _), (Below.refl _ _).alloc (Nat.le_refl _) _⟩
 case round =>
  obtain ⟨i, X, rfl, hi, HRL, ho, hb⟩ := hrel
  have hsz := hb.size
  by_cases hin : i < n
  · obtain ⟨ao, co, rfl, _, _⟩ := ho.out.form
    have HO := hide ho.out
    clear ho
    go_wp2_with (at_builtin; refine wpList_append_ints rfl (.tmp 11) (.tmp 13) rfl w.heap.size _ X [(i : Int)] rfl ((unhide HO).alloc _) _ 1 1 rfl rfl (Rd.one wr i _) (by rw [HRL.out]; simp; omega) (by simp; omega) ?_; intro v5 w5 o5 g5 _)
    have b5 := Below.step (hb.alloc (by omega) _) g5 ((unhide HO).alloc _) (Nat.le_refl _) (by simp; omega)
    have O5 := hide o5
    have L5 := Lib.hid (show (X ++ [(i : Int)]).length = i + 1 by rw [List.length_append, HRL.out]; rfl)
    clear o5 g5
    go_roundw
    case rel => exact ⟨i + 1, _, by go_num, by omega, L5, unhide O5, b5⟩
    case measure => simp only [intOf]; omega
  · have hie : i = n := by omega
    have HXL := Lib.hid (show X.length = n by rw [HRL.out]; exact hie)
    have HOO := hide ho.out
    clear ho hie HRL
    go_wp2
    go_ret
    exact ⟨_, X, rfl, HXL.out, unhide HOO, hb⟩
def LenDS (w : World) (g T n : Nat) (e : Ending) (w' : World) : Prop := ∃ v p, e = .returned v ∧ p.length = n ∧ Own w' w.heap.size v p ∧ Src w' g T ∧ Mk w w' g (g + 1)
theorem l04DrawPerm_any (s T : Nat) (n : Nat) (w : World) (h : Src w s T) (hT : T ≤ 1000000) (hn1 : 1 ≤ n) (hn : n ≤ 100) :
    Calls Tryz.prog 54 #[.pointer (some ⟨s, 0, none⟩), .int .i64 n] w (LenDS w s (T + 200) n) := by
 have hlt := h.lt
 have HS := hide h
 have H1 := hide (l04One_any n w hn)
 clear h
 go_enter Tryz.func54, Tryz.ntmps54
 go_wp2_with fail
 refine (unhide H1).mono ?_
 rintro e w1 ⟨v1, P, rfl, hPl, o1, b1⟩
 have z1 := b1.size
 have s1 := (unhide HS).below b1
 have m1 : Mk w w1 s (s + 1) := Mk.alloc b1 (by omega)
 rcases o1.slice_form with ⟨_, e⟩ | ⟨g, co, rfl, hg1, _⟩
 · exfalso; rw [e] at hPl; simp at hPl; omega
 rw [hPl] at o1 ⊢
 have HOO := hide o1
 have HPL := Lib.hid hPl
 have hwn : IntKind.i64.wrap ((n : Int) - 1) = (n : Int) - 1 := IntWalk.i64_in _ (by omega)
 clear o1 hPl
 go_wp2_with fail
 go_loopw [6] (fun iv wr => ∃ (j : Nat) (p : List Int), iv = .int .i64 ((j : Int) - 1) ∧ 1 ≤ j ∧ j ≤ n ∧ Hid (p.length = n) ∧ Hid (Own wr w.heap.size (.slice (some ⟨g, 0, none⟩) n co) p) ∧ Src wr s (T + 2 * (n - j)) ∧ Mk w wr s (s + 1)) (fun iv _ => (intOf iv).toNat)
 case atStart => exact ⟨n, P, rfl, hn1, Nat.le_refl _, HPL, HOO, s1.mono (by omega), m1⟩
 case round =>
  obtain ⟨j, p, rfl, hj0, hj, hpl, ho, hs, hmk⟩ := hrel
  by_cases hj1 : 1 < j
  · obtain ⟨i, hi⟩ : ∃ i : Nat, j = i + 1 := ⟨j - 1, by omega⟩
    subst hi
    have hii : ((i + 1 : Nat) : Int) - 1 = (i : Int) := by omega
    rw [hii]
    have g1 : (0 : Int) < (i : Int) := by omega
    have hw1 : IntKind.i64.wrap ((i : Int) + 1) = (i : Int) + 1 := IntWalk.i64_in _ (by omega)
    have hw2 : IntKind.i64.wrap ((i : Int) - 1) = (i : Int) - 1 := IntWalk.i64_in _ (by omega)
    have hat := pick_any s (T + 2 * (n - (i + 1))) ((i : Int) + 1) wr hs (by omega)
    have HAT := hide hat
    have hl := hpl.out
    have HO1 := hide ho.out
    have hsz := hmk.size
    clear hii hat hpl ho hs
    go_wp2_with fail
    refine (unhide HAT).mono ?_
    rintro e w2 ⟨k, rfl, hk, _, s2, m2⟩
    have hki : k ≤ i := by rcases hk with h | h <;> omega
    have o2 := (unhide HO1).mk m2 hlt
    have ci := o2.cell (j := i) (by rw [hl]; omega)
    have ck := o2.cell (j := k) (by rw [hl]; omega)
    have pi := o2.frozen i
    have pk := o2.frozen k
    have mm := hmk.trans m2
    have zz := mm.size
    obtain ⟨x, hx⟩ : ∃ x, x = nth p i := ⟨_, rfl⟩
    obtain ⟨y, hy⟩ : ∃ y, y = nth p k := ⟨_, rfl⟩
    rw [← hx] at ci
    rw [← hy] at ck
    have q1 := o2.set i y
    have q2 := q1.1.set k x
    have hln : ((p.set i y).set k x).length = n := by rw [List.length_set, List.length_set]; exact hl
    have gg := grown_trans_row q1.2 q2.2
    have mN := mm.own gg hg1 (by omega)
    have bN : Below w.heap.size w2 ((w2.setCell ⟨g, i, none⟩ (.int .i64 y)).setCell ⟨g, k, none⟩ (.int .i64 x)) := ((Below.refl _ _).setCell (p := ⟨g, i, none⟩) hg1 _).setCell (p := ⟨g, k, none⟩) hg1 _
    have sN := (s2.keep bN hlt).mono (T' := T + 2 * (n - i)) (by omega)
    have HQ := hide q2.1
    have HLN := Lib.hid hln
    have HM := hide mN
    have HSN := hide sN
    have hkn : k < n := by omega
    have hin2 : i < n := by omega
    have HXY := hide (show k = i → x = y from fun e => by rw [hx, hy, e])
    clear hln hx hy hl q1 q2 gg mN bN sN s2 m2 mm o2 hk
    by_cases hke : k = i
    · subst hke
      obtain rfl := (unhide HXY) rfl
      go_wp2
      go_roundw
      case rel => exact ⟨k, _, by first | rfl | go_num, by omega, by omega, HLN, unhide HQ, unhide HSN, unhide HM⟩
      case measure => simp only [intOf]; omega
    · have hke2 : ¬ i = k := fun e => hke e.symm
      go_wp2
      go_roundw
      case rel => exact ⟨i, _, by first | rfl | go_num, by omega, by omega, HLN, unhide HQ, unhide HSN, unhide HM⟩
      case measure => simp only [intOf]; omega
  · have g1 : ¬ (0 : Int) < ((j : Int) - 1) := by omega
    have HO1 := hide ho.out
    have HPO := hpl
    have HSN := hide hs
    clear ho hpl hs
    go_wp2
    go_ret
    exact ⟨_, p, rfl, HPO.out, unhide HO1, (unhide HSN).mono (by omega), hmk⟩
def LeD (w : World) (n : Nat) (e : Ending) (w' : World) : Prop := ∃ v p, e = .returned v ∧ p.length ≤ n ∧ Own w' w.heap.size v p ∧ Below w.heap.size w w'
theorem l04Image_any (pa : Option Addr) (pc : Nat) (p : List Int) (a : Option Addr) (c : Nat) (xs : List Int) (w : World) (hp : Rd w pa p) (hx : Rd w a xs) (hn : xs.length ≤ 1000) (hin : ∀ x ∈ xs, 0 ≤ x ∧ x < p.length) :
    Calls Tryz.prog 108 #[.slice pa p.length pc, .slice a xs.length c] w (LeD w xs.length) := by
 have HP := hide hp
 have HX := hide hx
 have HIN := hide hin
 clear hp hx hin
 go_enter Tryz.func108, Tryz.ntmps108
 go_wp2_with fail
 go_loopw [5, 6] (fun v iv wr => ∃ (i : Nat) (Y : List Int), iv = .int .i64 i ∧ i ≤ xs.length ∧ Y.length ≤ i ∧ Hid (Own wr w.heap.size v Y) ∧ Below w.heap.size w wr) (fun _ iv _ => xs.length - (intOf iv).toNat)
 case atStart => exact ⟨0, [], rfl, Nat.zero_le _, Nat.le_refl _, Own.empty w (Nat.le_refl _), (Below.refl _ _).alloc (Nat.le_refl _) _⟩
 case round =>
  obtain ⟨i, Y, rfl, hi, hYl, ho, hb⟩ := hrel
  have hsz := hb.size
  by_cases hil : i < xs.length
  · obtain ⟨b1, o1, rfl, hbb, hcx⟩ := (unhide HX).at_ (by omega)
    have hx0 := hcx i hil
    have hxi := unhide HIN (nth xs i) (nth_mem hil)
    obtain ⟨y, hy⟩ : ∃ y : Nat, nth xs i = (y : Int) := ⟨(nth xs i).toNat, by omega⟩
    rw [hy] at hx0 hxi
    have hyp : y < p.length := by omega
    obtain ⟨b2, o2, rfl, hbp, hcp⟩ := (unhide HP).at_ (by omega)
    have hp0 := hcp y hyp
    have d1 := (hb.cell (p := ⟨b1, o1 + i, none⟩) hbb).trans hx0
    have d2 := (hb.cell (p := ⟨b2, o2 + y, none⟩) hbp).trans hp0
    obtain ⟨q, hq⟩ : ∃ q, q = nth p y := ⟨_, rfl⟩
    rw [← hq] at d2
    obtain ⟨a5, c5, rfl, r5, _⟩ := ho.out.form
    have HC := hide (l00PutV_any a5 c5 Y q wr r5 (by omega))
    have hl := putV_len q Y
    have y0 : (0 : Int) ≤ (y : Int) := by omega
    have y1 : (y : Int) < (p.length : Int) := by omega
    clear hcx hcp hx0 hp0 hxi hy hq ho r5
    go_wp2_with fail
    refine (unhide HC).mono ?_
    rintro e w1 ⟨v1, rfl, oN, bN⟩
    have bb := hb.trans (bN.mono hsz)
    have ON := hide (oN.mono hsz)
    clear oN
    go_wp2_with fail
    go_roundw
    case rel => exact ⟨i + 1, _, by go_num, by omega, by omega, unhide ON, bb⟩
    case measure => simp only [intOf]; omega
  · have HOO := hide ho.out
    clear ho
    go_wp2
    go_ret
    exact ⟨_, Y, rfl, by omega, unhide HOO, hb⟩
end Go.Proofs.YtkiljcbejmiioaaGreat
namespace Go.Proofs.YtkiljcbejmiioaaGreat
open Go.RowKit
attribute [local go_sem ↓] Go.wp_at_zero Go.wp_at_succ
theorem field2 : isField 2 = true := by decide +kernel
theorem Blk.b3L {w : World} {g : Nat} {t : TypeId} {a b c : Value} (h : Blk w g t #[a, b, c]) (x y z : Value) : Blk (((w.setCell ⟨g, 0, none⟩ x).setCell ⟨g, 1, none⟩ y).setCell ⟨g, 2, none⟩ z) g t #[x, y, z] := ((h.set_ 0 x).set_ 1 y).set_ 2 z
theorem specMake2_any (w : World) : Calls Tryz.prog 6 #[.int .i64 2] w fun e w' => ∃ v, e = .returned (.tuple #[.agg #[.int .i64 (fdOf 2).p, .int .i64 (fdOf 2).k, v], .int .i64 0]) ∧ Own w' w.heap.size v (fdOf 2).poly ∧ Below w.heap.size w w' := by
 obtain ⟨W0, hW0⟩ : ∃ z, z = w.alloc (.cells #[.int .i64 0, .int .i64 0, .slice none 0 0] 30) := ⟨_, rfl⟩
 have b0 : Below w.heap.size w W0 := by rw [hW0]; exact (Below.refl _ _).alloc (Nat.le_refl _) _
 have k0 : Blk W0 w.heap.size 30 #[.int .i64 0, .int .i64 0, .slice none 0 0] := by rw [hW0]; exact Blk.new _ _ _ rfl
 have z0 : w.heap.size < W0.heap.size := k0.lt
 have H1 := hide (l03Split_any 2 W0)
 have H2 := hide (l03Make_any 2 W0 field2)
 have hf := field2
 rw [isField, decide_eq_true_eq] at hf
 obtain ⟨s, hs⟩ : ∃ s, s = (split 2).1 := ⟨_, rfl⟩
 rw [← hs] at H1 hf
 have hs0 : (s == 0) = false := by rw [beq_eq_false_iff_ne]; omega
 have hs1 : ¬ s = 0 := by omega
 obtain ⟨F, hF⟩ : ∃ F, F = fdOf 2 := ⟨_, rfl⟩
 rw [← hF] at H2 ⊢
 have HW := Lib.hid hW0
 clear hW0 hs hf hF
 go_enter Tryz.func6, Tryz.ntmps6
 go_upto_region 1 with fail
 rw [← HW.out]
 go_wp2_with fail
 refine (unhide H1).mono ?_
 rintro e w1 ⟨rfl, rfl⟩
 go_wp2_with fail
 refine (unhide H2).mono ?_
 rintro e w2 ⟨v2, rfl, o2, b2⟩
 obtain ⟨a2, c2, rfl, _, _⟩ := o2.form
 have k2 := k0.below b2 z0
 have f0 := k2.cell 0
 have f1 := k2.cell 1
 have f2 := k2.cell 2
 have g0 := k2.frozen 0
 have g1 := k2.frozen 1
 have g2 := k2.frozen 2
 have O2 := hide o2
 clear o2
 go_wp2
 refine bodyPost_ret (results_cell_tmp_row rfl _ _ w.heap.size 30 #[.int .i64 F.p, .int .i64 F.k, .slice a2 F.poly.length c2] _ rfl (k2.b3L _ _ _) Tryz.underlying30 rfl (by kernel_rfl)) rfl ?_
 exact ⟨_, rfl, ((((unhide O2).storeBelow (p := ⟨w.heap.size, 0, none⟩) z0 _).storeBelow (p := ⟨w.heap.size, 1, none⟩) z0 _).storeBelow (p := ⟨w.heap.size, 2, none⟩) z0 _).mono (Nat.le_of_lt z0), (((b0.trans (b2.mono (Nat.le_of_lt z0))).setCell (p := ⟨w.heap.size, 0, none⟩) (Nat.le_refl _) _).setCell (p := ⟨w.heap.size, 1, none⟩) (Nat.le_refl _) _).setCell (p := ⟨w.heap.size, 2, none⟩) (Nat.le_refl _) _⟩
end Go.Proofs.YtkiljcbejmiioaaGreat
namespace Go.Proofs.YtkiljcbejmiioaaGreat
open Go.RowKit
theorem drawField_any (g T : Nat) (w : World) (h : Src w g T) (hT : T ≤ 1000000000) :
    Calls Tryz.prog 84 #[.pointer (some ⟨g, 0, none⟩)] w fun e w' => ∃ (v : Value) (F : FD), e = .returned (.agg #[.int .i64 F.p, .int .i64 F.k, v]) ∧ F.Good ∧ F.n ≤ 9 ∧ Own w' w.heap.size v F.poly ∧ Src w' g (T + 2) ∧ Mk w w' g (g + 1) := by
 obtain ⟨W0, hW0⟩ : ∃ W0, W0 = w.alloc (.cells #[.int .i64 0, .int .i64 0, .slice none 0 0] 30) := ⟨_, rfl⟩
 have b0 : Below w.heap.size w W0 := by rw [hW0]; exact (Below.refl _ _).alloc (Nat.le_refl _) _
 have k0 : Blk W0 w.heap.size 30 #[.int .i64 0, .int .i64 0, .slice none 0 0] := by rw [hW0]; exact Blk.new _ _ _ rfl
 have z0 : w.heap.size < W0.heap.size := k0.lt
 have hlt := h.lt
 have HB := hide (h.below b0)
 have HW := Lib.hid hW0
 clear hW0 h
 go_enter Tryz.func84, Tryz.ntmps84
 go_upto_region 1 with fail
 rw [← HW.out]
 go_wp2_with fail
 refine (among_new g T [2, 2, 3, 4, 5, 7, 8, 9] W0 (unhide HB) (by omega) (by decide) (by decide) rfl rfl).mono ?_
 rintro e w1 ⟨i, hi, rfl, s1, m1⟩
 have hq := nth_all (P := fun q => isField q = true) hi (by decide +kernel)
 have hq9 := nth_all (P := fun q => q ≤ 9) hi (by decide)
 generalize nth [2, 2, 3, 4, 5, 7, 8, 9] i = q at hq hq9
 go_wp2_with fail
 refine (l03Make_any q w1 hq).mono ?_
 rintro e w2 ⟨v, rfl, o2, b2⟩
 have hG := fdOf_good hq
 have hn9 : (fdOf q).n ≤ 9 := by
  obtain ⟨ok, hpk, _⟩ := fdOf_ok hq
  have := ok.n_eq
  omega
 generalize fdOf q = F at hG o2 hn9
 have z1 := m1.size
 have z2 := b2.size
 have mm := ((Mk.alloc b0 (by omega : g ≤ w.heap.size)).trans m1).new (b2.mono (by omega)) (by omega)
 have k2 := (k0.kp (m1.kp (.inr (by omega)) k0.lt)).below b2 (by have := k0.lt; omega)
 have s2 := s1.below b2
 obtain ⟨a2, c2, rfl, r2, _⟩ := o2.form
 have f0 := k2.cell 0
 have f1 := k2.cell 1
 have f2 := k2.cell 2
 have g0 := k2.frozen 0
 have g1 := k2.frozen 1
 have g2 := k2.frozen 2
 go_wp2
 refine bodyPost_ret (results_cell_row rfl _ _ w.heap.size 30 #[.int .i64 F.p, .int .i64 F.k, .slice a2 F.poly.length c2] (0, 0) _ rfl (k2.b3.store _ _ _) Tryz.underlying30 rfl (by kernel_rfl)) rfl ⟨_, F, rfl, hG, hn9, ?_, ?_, ?_⟩
 · have hs : w.heap.size < w1.heap.size := by omega
   exact (((o2.storeBelow hs _).storeBelow hs _).storeBelow hs _).mono (Nat.le_of_lt hs)
 · exact s2.keep (Below.set3 (Below.refl _ _) (Nat.le_refl _) _ _ _) hlt
 · exact mm.new (Below.set3 (Below.refl _ _) (Nat.le_refl _) _ _ _) (by omega)
def MatD (w : World) (g T : Nat) (F : FD) (n rows : Nat) (e : Ending) (w' : World) : Prop :=
 ∃ (v : Value) (xss : List (List Int)), e = .returned v ∧ xss.length = rows ∧ F.Mat n xss ∧ OwnS w' w.heap.size v xss ∧ Src w' g T ∧ Mk w w' g (g + 1)
theorem drawRows_any (g T gF : Nat) (F : FD) (n rows : Nat) (w : World) (h : Src w g T) (hn : n ≤ 1000) (hr : rows ≤ 1000) (hT : T ≤ 100000000) (hF : ∀ w', Mk w w' g (g + 1) → PF w' gF F) (ok : F.Ok) :
    Calls Tryz.prog 86 #[.pointer (some ⟨g, 0, none⟩), .pointer (some ⟨gF, 0, none⟩), .int .i64 rows, .int .i64 n] w (MatD w g (T + 5000 * rows) F n rows) := by
 obtain ⟨n2, n64⟩ := ok.n_bd
 have hlt := h.lt
 have HF := hide hF
 have HS := hide h
 clear hF h
 go_enter Tryz.func86, Tryz.ntmps86
 go_wp2_with fail
 go_loopw [9] (fun v wr => ∃ (xss : List (List Int)), xss.length ≤ rows ∧ Hid (F.Mat n xss) ∧ Hid (OwnS wr w.heap.size v xss) ∧ Hid (Src wr g (T + 5000 * xss.length)) ∧ Mk w wr g (g + 1) ∧ lenV v = xss.length) (fun v _ => rows - lenV v)
 case atStart => exact ⟨[], Nat.zero_le _, by intro x hx; simp at hx, OwnS.empty w (Nat.le_refl _), ((unhide HS).below ((Below.refl _ _).alloc (Nat.le_refl _) _)).mono (by omega), Mk.alloc ((Below.refl _ _).alloc (Nat.le_refl _) _) (by omega), rfl⟩
 case round =>
  obtain ⟨xss, hl, hM, ho, hs, hmk, hlv⟩ := hrel
  have hsz := hmk.size
  obtain ⟨a9, c9, rfl, rds⟩ := ho.out.form
  have hxm := rds.len
  by_cases hlr : xss.length < rows
  · go_wp2_with fail
    refine (drawVector_any g (T + 5000 * xss.length) gF F n wr hs.out hn (by omega) (fun w' m => unhide HF _ (hmk.trans m)) ok).mono ?_
    rintro e w1 ⟨v1, xs, rfl, hxl, hxe, o1, s1, m1⟩
    have hH := ho.out.toH.kp (m1.kp (.inr (by omega)) (Nat.le_refl _))
    have z1 := m1.size
    have mk1 := hmk.trans m1
    have rds1 := hH.own.rd
    obtain ⟨x1, y1, rfl, _, _⟩ := o1.form
    have HX := hide hxe
    have HXL := Lib.hid hxl
    clear hs ho rds hxl hxe
    by_cases h1 : 1 < xss.length
    · go_wp2_with fail
      refine (one_any g (T + 5000 * xss.length + 4 * n) 4 w1 s1 (by omega)).mono ?_
      rintro e w2 ⟨b, rfl, s2, m2⟩
      have o2 := o1.mk m2 (by omega)
      have hH2 := hH.kp (m2.kp (.inr (by omega)) (by omega))
      have mk2 := mk1.trans m2
      have z2 := m2.size
      have rds2 := hH2.own.rd
      cases b with
      | false =>
       clear s1 o1 hH mk1 rds1 m1 rds2 hmk
       have HH := hide hH2
       have HO := hide o2
       clear hH2 o2
       go_wp2_with (at_builtin; refine wpList_append_row rfl (.tmp 39) (.tmp 41) rfl (v := .slice a9 xss.length c9) rfl ((unhide HH).belw ((Below.refl _ _).alloc (Nat.le_refl _) _) (by omega)) _ rfl ((Blk.new w2 28 #[.slice x1 xs.length y1] rfl).cell 0) ((unhide HO).alloc _) hsz (by simp; omega) (by omega) ?_; intro v5 w5 o5 g5 _; obtain ⟨a5, c5, e5, _⟩ := o5.form; rw [List.length_append, List.length_singleton] at e5; subst e5)
       go_roundw
       case rel =>
        have b5 : Below w.heap.size w2 w5 := Below.stepS ((Below.refl _ _).alloc (by omega) _) g5 (((unhide HH).belw ((Below.refl _ _).alloc (Nat.le_refl _) _) (by omega)).own) (Nat.le_refl _) (by simp; omega)
        exact ⟨xss ++ [xs], by simp; omega, Mat_snoc hM.out ⟨HXL.out, unhide HX⟩, o5, (s2.keep b5 hlt).mono (by simp; omega), mk2.new b5 (by omega), by simp [lenV]⟩
       case measure => first | (simp only [lenV]; omega) | (simp [lenV]; omega)
      | true =>
       obtain ⟨b9, o9, rfl, hb9, hc9⟩ := rds2.at_ (by omega)
       obtain ⟨ai, ci, hc0, hr0⟩ := hc9 0 (by omega)
       obtain ⟨aj, cj, hc1, hr1⟩ := hc9 1 (by omega)
       have hM0 := Mat_nth hM.out (i := 0) (by omega)
       have hM1 := Mat_nth hM.out (i := 1) (by omega)
       have hb9w : w.heap.size ≤ b9 := by
        obtain ⟨_, _, _, _, hin, _⟩ := hH2
        exact (hin b9 rfl).1
       rw [Nat.add_zero] at hc0
       have hne : b9 ≠ g := by omega
       have boxes : ∀ W, Mk w2 W g (g + 1) → (Mk w2 W g (g + 1) ∧ W.cell? ⟨b9, o9, none⟩ = some (.slice ai (nthL xss 0).length ci) ∧ W.cell? ⟨b9, o9 + 1, none⟩ = some (.slice aj (nthL xss 1).length cj)) := fun W m => ⟨m, (cell_block ((m.kp (lo' := b9) (hi' := b9 + 1) (by omega) (by omega)).2 b9 (Nat.le_refl _) (by omega)) _).trans hc0, (cell_block ((m.kp (lo' := b9) (hi' := b9 + 1) (by omega) (by omega)).2 b9 (Nat.le_refl _) (by omega)) _).trans hc1⟩
       rw [hM0.1, hM1.1] at boxes
       have hdr : Mk w2 w2.drew g (g + 1) := Mk.alloc (Below.drewn 1) (by omega)
       have hsize := fun W (m : Mk w2 W g (g + 1)) => l03Size_any gF F W (unhide HF _ (mk2.trans m)) ok
       have BX := hide boxes
       have HSZ := hide hsize
       have HH := hide hH2
       have HO := hide o2
       have HC := hide hc9
       have R0 := hide hr0
       have R1 := hide hr1
       have HM0 := hide hM0
       have HM1 := hide hM1
       have S2 := hide s2
       have hb9' : 0 < xss.length := by omega
       clear s1 o1 hH mk1 rds1 m1 rds2 boxes hsize hH2 o2 hc9 hc0 hc1 hr0 hr1 hM0 hM1 s2
       go_upto_region 5 with fail
       refine wp_region_noPanic ?_
       refine wp_region_ord (S := (fun W => Mk w2 W g (g + 1) ∧ W.cell? ⟨b9, o9, none⟩ = some (.slice ai n ci) ∧ W.cell? ⟨b9, o9 + 1, none⟩ = some (.slice aj n cj))) [(true, 0), (true, 1), (true, 2), (true, 3), (true, 4), (true, 5), (true, 6), (true, 7), (true, 8), (false, 9), (false, 10), (false, 11), (true, 12)] (by kernel_rfl) (by kernel_rfl) (by kernel_rfl) rfl (fun _ _ _ _ _ h => h) ?_ (fun hHeld => ?_)
       · exact (unhide BX) _ hdr
       refine SeqO.take (by rfl) (v := ?hv1) (by rfl) ?hy1 ?hr1
       case hy1 =>
        intro w hSw
        try dsimp only at hSw
        go_simp
        try (with_reducible rfl)
       try simp only [Act.put, List.setIfInBounds_toArray, List.set_cons_zero, List.set_cons_succ]
       refine SeqO.take (by rfl) (v := ?hv2) (by rfl) ?hy2 ?hr2
       case hy2 =>
        intro w hSw
        try dsimp only at hSw
        go_simp
        try (with_reducible rfl)
       try simp only [Act.put, List.setIfInBounds_toArray, List.set_cons_zero, List.set_cons_succ]
       refine SeqO.take (by rfl) (v := ?hv3) (by rfl) ?hy3 ?hr3
       case hy3 =>
        intro w hSw
        try dsimp only at hSw
        go_simp
        try (with_reducible rfl)
       try simp only [Act.put, List.setIfInBounds_toArray, List.set_cons_zero, List.set_cons_succ]
       refine SeqO.take (by rfl) (v := ?hv4) (by rfl) ?hy4 ?hr4
       case hy4 =>
        intro w hSw
        try dsimp only at hSw
        go_simp
        try (with_reducible rfl)
       try simp only [Act.put, List.setIfInBounds_toArray, List.set_cons_zero, List.set_cons_succ]
       refine SeqO.take (by rfl) (v := ?hv5) (by rfl) ?hy5 ?hr5
       case hy5 =>
        intro w hSw
        try dsimp only at hSw
        go_simp
        try (with_reducible rfl)
       try simp only [Act.put, List.setIfInBounds_toArray, List.set_cons_zero, List.set_cons_succ]
       refine SeqO.take (by rfl) (v := ?hv6) (by rfl) ?hy6 ?hr6
       case hy6 =>
        intro w hSw
        try dsimp only at hSw
        go_simp
        try (with_reducible rfl)
       try simp only [Act.put, List.setIfInBounds_toArray, List.set_cons_zero, List.set_cons_succ]
       refine SeqO.take (by rfl) (v := ?hv7) (by rfl) ?hy7 ?hr7
       case hy7 =>
        intro w hSw
        try dsimp only at hSw
        go_simp
        try (with_reducible rfl)
       try simp only [Act.put, List.setIfInBounds_toArray, List.set_cons_zero, List.set_cons_succ]
       refine SeqO.take (by rfl) (v := ?hv8) (by rfl) ?hy8 ?hr8
       case hy8 =>
        intro w hSw
        try dsimp only at hSw
        go_simp
        try (with_reducible rfl)
       try simp only [Act.put, List.setIfInBounds_toArray, List.set_cons_zero, List.set_cons_succ]
       refine SeqO.take (by rfl) (v := ?hv9) (by rfl) ?hy9 ?hr9
       case hy9 =>
        intro w hSw
        try dsimp only at hSw
        go_simp
        try (with_reducible rfl)
       try simp only [Act.put, List.setIfInBounds_toArray, List.set_cons_zero, List.set_cons_succ]
       refine SeqO.call (by rfl) (fun K hK => ?_)
       go_simp
       refine (unhide HSZ _ hdr).mono ?_
       rintro e w3 ⟨rfl, b3⟩
       have m3 := hdr.new b3 (by omega)
       have s3 := ((unhide S2).below (Below.drewn 1)).below b3
       refine hK.out _ _ ?_ (fun hHeld => ?_)
       · exact (unhide BX) _ m3
       clear hK K
       try simp only [Act.put, List.setIfInBounds_toArray, List.set_cons_zero, List.set_cons_succ]
       refine SeqO.call (by rfl) (fun K hK => ?_)
       go_simp
       refine (pick_any g (T + 5000 * xss.length + 4 * n + 2) F.n w3 s3 (by omega)).mono ?_
       rintro e w4 ⟨y, rfl, hy, hy2, s4, m4⟩
       have mm4 := m3.trans m4
       have hyn : (y : Int) < F.n := by rcases hy with h | h <;> omega
       refine hK.out _ _ ?_ (fun hHeld => ?_)
       · exact (unhide BX) _ mm4
       clear hK K
       try simp only [Act.put, List.setIfInBounds_toArray, List.set_cons_zero, List.set_cons_succ]
       refine SeqO.call (by rfl) (fun K hK => ?_)
       go_simp
       have hH4 := (unhide HH).kp (mm4.kp (.inr (by omega)) (by omega))
       have bx4 := (unhide BX) _ mm4
       have rd0 := RdS.row_same hH4.own.rd rfl (i := 0) (by omega) (by rw [Nat.add_zero]; exact bx4.2.1)
       have rd1 := RdS.row_same hH4.own.rd rfl (i := 1) (by omega) bx4.2.2
       have hls := l17Less_any gF F ai aj ci cj (nthL xss 0) (nthL xss 1) y w4 (unhide HF _ (mk2.trans mm4)) ok rd0 rd1 (by rw [(unhide HM0).1, (unhide HM1).1]) (by omega) hyn (unhide HM0).2 (unhide HM1).2
       have hll := less_len F (nthL xss 0) (nthL xss 1) (y : Int)
       rw [(unhide HM0).1] at hll
       have hle := less_el ok (nthL xss 0) (nthL xss 1) (y : Int)
       rw [(unhide HM0).1, (unhide HM1).1] at hls
       generalize less F (nthL xss 0) (nthL xss 1) (y : Int) = xz at hls hll hle
       have HLS := hide hls
       have HXL := Lib.hid hll
       have HX := hide hle
       clear hls hll hle bx4 rd0 rd1
       refine (unhide HLS).mono ?_
       rintro e w6 ⟨v6, rfl, o6, b6⟩
       have m6 := mm4.new (b6.mono (by have := mm4.size; omega)) (by omega)
       refine hK.out _ _ ?_ (fun hHeld => ?_)
       · exact (unhide BX) _ m6
       clear hK K
       try simp only [Act.put, List.setIfInBounds_toArray, List.set_cons_zero, List.set_cons_succ]
       refine SeqO.take (by rfl) (v := ?hv10) (by rfl) ?hy10 ?hr10
       case hy10 =>
        intro w hSw
        try dsimp only at hSw
        go_simp
        try (with_reducible rfl)
       try simp only [Act.put, List.setIfInBounds_toArray, List.set_cons_zero, List.set_cons_succ]
       refine SeqO.done (NoPanic.normal ?_)
       have z6 := m6.size
       have s6 := s4.below b6
       have mk6 := mk2.trans m6
       have hH6 := hH4.belw b6 (by have := mm4.size; omega)
       obtain ⟨x6, y6, rfl, _, _⟩ := o6.form
       have o6' := o6.mono (show wr.heap.size ≤ w4.heap.size from by have := mm4.size; omega)
       go_wp2_with (at_builtin; refine wpList_append_row rfl (.tmp 39) (.tmp 41) rfl (v := .slice (some ⟨b9, o9, none⟩) xss.length c9) rfl ((hH6).belw ((Below.refl _ _).alloc (Nat.le_refl _) _) (by omega)) _ rfl ((Blk.new w6 28 #[.slice x6 xz.length y6] rfl).cell 0) ((o6').alloc _) hsz (by simp; omega) (by omega) ?_; intro v5 w5 o5 g5 _; obtain ⟨a5, c5, e5, _⟩ := o5.form; rw [List.length_append, List.length_singleton] at e5; subst e5)
       go_roundw
       case rel =>
        have b5 : Below w.heap.size w6 w5 := Below.stepS ((Below.refl _ _).alloc (by omega) _) g5 (((hH6).belw ((Below.refl _ _).alloc (Nat.le_refl _) _) (by omega)).own) (Nat.le_refl _) (by simp; omega)
        exact ⟨xss ++ [xz], by simp; omega, Mat_snoc hM.out ⟨HXL.out, unhide HX⟩, o5, (s6.keep b5 hlt).mono (by simp; omega), mk6.new b5 (by omega), by simp [lenV]⟩
       case measure => first | (simp only [lenV]; omega) | (simp [lenV]; omega)
    · have h1' : (xss.length : Int) ≤ 1 := by omega
      have h1'' : ¬ (1 : Int) < xss.length := by omega
      go_upto_region 6 with fail
      go_wp2_with (at_builtin; refine wpList_append_row rfl (.tmp 39) (.tmp 41) rfl (v := .slice a9 xss.length c9) rfl ((hH).belw ((Below.refl _ _).alloc (Nat.le_refl _) _) (by omega)) _ rfl ((Blk.new w1 28 #[.slice x1 xs.length y1] rfl).cell 0) ((o1).alloc _) hsz (by simp; omega) (by omega) ?_; intro v5 w5 o5 g5 _; obtain ⟨a5, c5, e5, _⟩ := o5.form; rw [List.length_append, List.length_singleton] at e5; subst e5)
      go_roundw
      case rel =>
       have b5 : Below w.heap.size w1 w5 := Below.stepS ((Below.refl _ _).alloc (by omega) _) g5 (((hH).belw ((Below.refl _ _).alloc (Nat.le_refl _) _) (by omega)).own) (Nat.le_refl _) (by simp; omega)
       exact ⟨xss ++ [xs], by simp; omega, Mat_snoc hM.out ⟨HXL.out, unhide HX⟩, o5, (s1.keep b5 hlt).mono (by simp; omega), mk1.new b5 (by omega), by simp [lenV]⟩
      case measure => first | (simp only [lenV]; omega) | (simp [lenV]; omega)
  · have hle : xss.length = rows := by omega
    have HL := Lib.hid hle
    clear hle
    go_wp2
    go_ret
    exact ⟨_, xss, rfl, HL.out, hM.out, ho.out, hs.out.mono (by have := HL.out; omega), hmk⟩
end Go.Proofs.YtkiljcbejmiioaaGreat
namespace Go.Proofs.YtkiljcbejmiioaaGreat
open Go.RowKit
attribute [local go_sem ↓] Go.wp_at_zero Go.wp_at_succ
theorem cap9 : ∀ q : Nat, q < 10 → ∀ k : Nat, k < 4 → capTo q 4096 k ≤ 4096 := by decide
theorem cap2 : ∀ k : Nat, k < 6 → capTo 2 4096 k ≤ 4096 := by decide
theorem set_Mat {F : FD} (ok : F.Ok) {n : Nat} {A : List (List Int)} (hM : F.Mat n A) (h0 : 0 < A.length) (x : Nat) : F.Mat n (A.set 0 ((nthL A 0).set x 1)) := fun r hr => by
 rcases List.mem_or_eq_of_mem_set hr with h | h
 · exact hM r h
 · have h1 := Mat_nth hM h0
   obtain ⟨n2, _⟩ := ok.n_bd
   rw [h]
   refine ⟨by rw [List.length_set, h1.1], fun y hy => ?_⟩
   rcases List.mem_or_eq_of_mem_set hy with h2 | h2
   · exact h1.2 y h2
   · rw [h2]; omega
theorem drawn_gc {F : FD} (hG : F.Good) {n x : Nat} {A : List (List Int)} (hM : F.Mat n A) (h0 : 0 < A.length) (hx : x < n) (n32 : n ≤ 32) (h8 : A.length ≤ 8) (hc : capTo F.n 4096 A.length ≤ 4096) :
    GC F n (form F (A.set 0 ((nthL A 0).set x 1)) n) ∧ mkC F (form F (A.set 0 ((nthL A 0).set x 1)) n) = (F.p, (F.k : Int), F.poly, form F (A.set 0 ((nthL A 0).set x 1)) n, 0) := by
 have ok := hG.ok
 have hM' := set_Mat ok hM h0 x
 obtain ⟨n2, _⟩ := ok.n_bd
 refine mkC_gc hG hM' (by omega) n32 ?_
 have hle : (form F (A.set 0 ((nthL A 0).set x 1)) n).length ≤ A.length := by
  rw [form_len]
  have := red_piv F (A.set 0 ((nthL A 0).set x 1)) n
  rwa [List.length_set] at this
 have hne : (form F (A.set 0 ((nthL A 0).set x 1)) n).length ≠ 0 := fun e => by
  obtain ⟨_, _, _, hs⟩ := form_ech hG hM'
  have h1 := (hs _).2 (Sp.row ok hM' (j := 0) (by rw [List.length_set]; exact h0))
  have h2 : ∀ v, Sp F (form F (A.set 0 ((nthL A 0).set x 1)) n) v → ∀ i, v i = 0 := fun v hv => by
   cases hv with
   | zero => exact fun _ => rfl
   | step h hj hc => omega
  have h3 := h2 _ h1 x
  rw [nthL_set_same h0, nth_set_same (by rw [(Mat_nth hM h0).1]; exact hx)] at h3
  omega
 have hcap := capTo_mono (b := F.n) (l := 4096) (by omega) (by omega) hle hc
 rw [mkC, if_neg hne, if_neg (by omega)]
theorem OwnS.ne_row {w : World} {B B' gA g0 n c m d : Nat} {A : List (List Int)} {xs : List Int} (h : OwnS w B (.slice (some ⟨gA, 0, none⟩) n c) A) (o : Own w B' (.slice (some ⟨g0, 0, none⟩) m d) xs) : gA ≠ g0 := fun e => by
 obtain ⟨_, vs, ⟨_, hr⟩, _⟩ := h
 obtain ⟨_, ⟨_, ho⟩⟩ := o
 rcases hr with ⟨e1, _⟩ | ⟨g1, cap1, cur1, e1, _, hg1, _⟩
 · cases e1
 · rcases ho with ⟨e2, _⟩ | ⟨g2, cap2, cur2, e2, _, hg2, _⟩
   · cases e2
   · injection e1 with e1 _ _
     injection e1 with e1
     injection e1 with e1 _
     injection e2 with e2 _ _
     injection e2 with e2
     injection e2 with e2 _
     rw [← e1, e, e2, hg2] at hg1
     injection hg1 with hg1
     injection hg1 with _ h3 _
     exact absurd h3 (by decide)
theorem OwnS.set4 {w : World} {B g : Nat} {v : Value} {xss : List (List Int)} (h : OwnS w B v xss) (hg : g < B) (a b c d : Value) : OwnS ((((w.setCell ⟨g, 0, none⟩ a).setCell ⟨g, 1, none⟩ b).setCell ⟨g, 2, none⟩ c).setCell ⟨g, 3, none⟩ d) B v xss := by
 have key : ∀ (W : World) (i : Nat) (x : Value), Kp W (W.setCell ⟨g, i, none⟩ x) B W.heap.size := fun W i x => ⟨by simp, fun q h1 _ => Below.heap_setCell W _ _ q (by show q ≠ g; omega)⟩
 exact ((((((((h.toH.kp (key _ _ _)).own).toH.kp (key _ _ _)).own).toH.kp (key _ _ _)).own).toH.kp (key _ _ _)).own)
def CodeD (w : World) (e : Ending) (w' : World) : Prop :=
 ∃ (F : FD) (n : Nat) (m : List (List Int)) (v u : Value), e = .returned (.agg #[.int .i64 F.p, .int .i64 F.k, v, u]) ∧ GC F n m ∧ n ≤ 20 ∧ Own w' w.heap.size v F.poly ∧ OwnS w' w.heap.size u m
theorem l18Draw_src (g T : Nat) (w : World) (h : Src w g T) (hT : T ≤ 1000000) :
    Calls Tryz.prog 35 #[.pointer (some ⟨g, 0, none⟩)] w fun e w' => CodeD w e w' ∧ Mk w w' g (g + 1) ∧ Src w' g (T + 100000) := by
 obtain ⟨W0, hW0⟩ : ∃ W0, W0 = w.alloc (.cells #[.int .i64 0, .int .i64 0, .slice none 0 0, .slice none 0 0] 36) := ⟨_, rfl⟩
 have b0 : Below w.heap.size w W0 := by rw [hW0]; exact (Below.refl _ _).alloc (Nat.le_refl _) _
 have k0 : Blk W0 w.heap.size 36 #[.int .i64 0, .int .i64 0, .slice none 0 0, .slice none 0 0] := by rw [hW0]; exact Blk.new _ _ _ rfl
 have z0 : w.heap.size < W0.heap.size := k0.lt
 have hlt := h.lt
 have HB := hide (h.below b0)
 have HW := Lib.hid hW0
 have m0 : Mk w W0 g (g + 1) := Mk.alloc b0 (by omega)
 clear hW0 h
 go_enter Tryz.func35, Tryz.ntmps35
 go_upto_region 1 with fail
 rw [← HW.out]
 go_wp2_with fail
 refine (drawField_any g T W0 (unhide HB) (by omega)).mono ?_
 rintro e w1 ⟨v1, F, rfl, hG, hn9, o1, s1, m1⟩
 have ok := hG.ok
 obtain ⟨n2, n64⟩ := ok.n_bd
 obtain ⟨a1, c1, rfl, r1, _⟩ := o1.form
 obtain ⟨W1, hW1⟩ : ∃ z, z = w1.alloc (.cells #[.int .i64 F.p, .int .i64 F.k, .slice a1 F.poly.length c1] 30) := ⟨_, rfl⟩
 have b1 : Below w1.heap.size w1 W1 := by rw [hW1]; exact (Below.refl _ _).alloc (Nat.le_refl _) _
 have kF : Blk W1 w1.heap.size 30 #[.int .i64 F.p, .int .i64 F.k, .slice a1 F.poly.length c1] := by rw [hW1]; exact Blk.new _ _ _ rfl
 have z1 := m1.size
 have zF := kF.lt
 have k1 := (k0.kp (m1.kp (.inr (by omega)) k0.lt)).below b1 (by omega)
 have mW := (m0.trans m1).new (b1.mono (by omega)) (by omega)
 have sW := s1.below b1
 have oF := o1.below b1 (Nat.le_refl _)
 have hPF : ∀ w', Mk W1 w' g (g + 1) → PF w' w1.heap.size F := fun w' m => by
  have k := kF.kp (m.kp (.inr (by omega)) kF.lt)
  exact ⟨k.cell 0, k.cell 1, a1, c1, k.cell 2, (oF.mk m (by omega)).rd⟩
 have HPF := hide hPF
 have HW1 := Lib.hid hW1
 have hp2 := ok.p2
 have hp64 := ok.p64
 have hk6 := ok.k6
 clear hW1 hPF o1 s1 r1 m0 m1 b1 k0
 go_upto_region 2 with fail
 rw [← HW1.out]
 go_wp2_with fail
 refine (pick_any g (T + 2) 3 W1 sW (by omega)).mono ?_
 rintro e w2 ⟨x2, rfl, hx2, _, s2, m2⟩
 have hK2 : x2 ≤ 2 := by omega
 go_wp2_with fail
 refine (pick_any g (T + 2 + 2) 5 w2 s2 (by omega)).mono ?_
 rintro e w3 ⟨x3, rfl, hx3, _, s3, m3⟩
 have hN3 : x3 ≤ 4 := by omega
 have m13 := m2.trans m3
 have k3 := kF.kp (m13.kp (.inr (by omega)) kF.lt)
 have e0 := k3.cell 0
 have e1 := k3.cell 1
 clear hx2 hx3 s2 m2 m3 k3
 by_cases hp : F.p = 2
 · by_cases hk1 : (F.k : Int) = 1
   · have hfn : F.n = 2 := by
       have h := ok.n_eq
       have : F.k = 1 := by omega
       rw [this, hp] at h
       simp at h
       omega
     have hpe : (F.p == 2) = true := by rw [hp]; rfl
     have hke : ((F.k : Int) == 1) = true := by rw [hk1]; rfl
     go_wp2_with fail
     refine (one_any g (T + 2 + 2 + 2) 2 w3 s3 (by omega)).mono ?_
     rintro e w4 ⟨b, rfl, s4, m4⟩
     have m14 := m13.trans m4
     cases b with
     | true =>
      go_wp2_with fail
      refine (pick_any g (T + 2 + 2 + 2 + 2) 3 w4 s4 (by omega)).mono ?_
      rintro e w5 ⟨x5, rfl, hx5, _, s5, m5⟩
      have hK5 : x5 ≤ 2 := by omega
      go_wp2_with fail
      refine (pick_any g (T + 2 + 2 + 2 + 2 + 2) 6 w5 s5 (by omega)).mono ?_
      rintro e w6 ⟨x6, rfl, hx6, _, s6, m6⟩
      have hN6 : x6 ≤ 5 := by omega
      have m16 := (m14.trans m5).trans m6
      obtain ⟨K, hKe⟩ : ∃ K : Nat, K = 1 + x2 + x5 := ⟨_, rfl⟩
      obtain ⟨N, hNe⟩ : ∃ N : Nat, N = 1 + x2 + x5 + 1 + x6 := ⟨_, rfl⟩
      have hKi : (K : Int) = 1 + (x2 : Int) + (x5 : Int) := by omega
      have hNi : (N : Int) = 1 + (x2 : Int) + (x5 : Int) + 1 + (x6 : Int) := by omega
      have hK1 : 1 ≤ K := by omega
      have hK8 : K ≤ 5 := by omega
      have hKN : K ≤ N := by omega
      have hN32 : N ≤ 20 := by omega
      have hcap : capTo F.n 4096 K ≤ 4096 := by rw [hfn]; exact cap2 K (by omega)
      go_upto_region 7 with fail
      try clear hfn
      try clear hke
      try clear hpe
      try clear hk1
      try clear hp
      go_wp2_with fail
      have hdr := drawRows_any g (T + 100) w1.heap.size F N K w6 (s6.mono (by omega)) (by omega) (by omega) (by omega) (fun w' m => unhide HPF _ (m16.trans m)) ok
      rw [hKi, hNi] at hdr
      refine hdr.mono ?_
      rintro e wR ⟨vr, A, rfl, hAl, hAM, oA, sA, mA⟩
      have mR := m16.trans mA
      have zR := mR.size
      have z6 := m16.size
      obtain ⟨gA, cA, rfl, hgA, hgA', _, _⟩ := oA.at_ (by omega)
      have hM0 := Mat_nth hAM (i := 0) (by omega)
      obtain ⟨a0, c0, o0, hcell0, _⟩ := oA.row (i := 0) (by omega)
      rw [hM0.1] at o0 hcell0
      obtain ⟨g0, c0', e0', hg0, _, _, _⟩ := o0.at_len hM0.1 (by omega)
      injection e0' with ea _ ec
      subst ea
      subst ec
      have hc0 := hcell0 gA 0 _ _ rfl
      rw [Nat.add_zero] at hc0
      have hneA := oA.ne_row o0
      have boxes : ∀ W, Mk wR W g (g + 1) → W.cell? ⟨gA, 0, none⟩ = some (.slice (some ⟨g0, 0, none⟩) N c0) := fun W m => (cell_block ((m.kp (lo' := gA) (hi' := gA + 1) (by omega) (by omega)).2 gA (Nat.le_refl _) (by omega)) _).trans hc0
      have BX := hide boxes
      have hAp : 0 < A.length := by omega
      have hA5 : A.length ≤ 5 := by omega
      have hcapA : capTo F.n 4096 A.length ≤ 4096 := by rw [hAl]; exact hcap
      have HNI := Lib.hid hNi
      have hpk := pick_any g (T + 100 + 5000 * K) N wR.drew (sA.below (Below.drewn 1)) (by omega)
      rw [hNi] at hpk
      have hdw : Mk wR wR.drew g (g + 1) := Mk.alloc (Below.drewn 1) (by omega)
      have HPK := hide hpk
      have HOA := hide oA
      have HAM := hide hAM
      have HM0 := hide hM0
      clear boxes hpk oA hAM hM0 o0 hcell0 hc0 e0 e1 hdr hAl hKe hKi hNe hNi hcap
      go_upto_region 8 with fail
      refine wp_region_noPanic ?_
      refine wp_region_ord (S := (fun W => W.cell? ⟨gA, 0, none⟩ = some (.slice (some ⟨g0, 0, none⟩) N c0))) [(true, 0), (true, 1), (true, 2), (true, 3), (true, 4), (false, 5), (true, 6), (false, 7)] (by kernel_rfl) (by kernel_rfl) (by kernel_rfl) rfl (fun _ _ _ _ _ h => h) ?_ (fun hHeld => ?_)
      · exact (unhide BX) _ hdw
      refine SeqO.take (by rfl) (v := ?hv1) (by rfl) ?hy1 ?hr1
      case hy1 =>
       intro w hSw
       try dsimp only at hSw
       go_simp
       try (with_reducible rfl)
      try simp only [Act.put, List.setIfInBounds_toArray, List.set_cons_zero, List.set_cons_succ]
      refine SeqO.take (by rfl) (v := ?hv2) (by rfl) ?hy2 ?hr2
      case hy2 =>
       intro w hSw
       try dsimp only at hSw
       go_simp
       try (with_reducible rfl)
      try simp only [Act.put, List.setIfInBounds_toArray, List.set_cons_zero, List.set_cons_succ]
      refine SeqO.take (by rfl) (v := ?hv3) (by rfl) ?hy3 ?hr3
      case hy3 =>
       intro w hSw
       try dsimp only at hSw
       go_simp
       try (with_reducible rfl)
      try simp only [Act.put, List.setIfInBounds_toArray, List.set_cons_zero, List.set_cons_succ]
      refine SeqO.take (by rfl) (v := ?hv4) (by rfl) ?hy4 ?hr4
      case hy4 =>
       intro w hSw
       try dsimp only at hSw
       go_simp
       try (with_reducible rfl)
      try simp only [Act.put, List.setIfInBounds_toArray, List.set_cons_zero, List.set_cons_succ]
      refine SeqO.take (by rfl) (v := ?hv5) (by rfl) ?hy5 ?hr5
      case hy5 =>
       intro w hSw
       try dsimp only at hSw
       go_simp
       try (with_reducible rfl)
      try simp only [Act.put, List.setIfInBounds_toArray, List.set_cons_zero, List.set_cons_succ]
      refine SeqO.call (by rfl) (fun K hK => ?_)
      go_simp
      refine (unhide HPK).mono ?_
      rintro e w8 ⟨x8, rfl, hx8, _, s8, m8⟩
      have hx8N : x8 < N := by have := HNI.out; omega
      have m8d := hdw.trans m8
      have oA8 := (unhide HOA).mk m8d (by omega)
      obtain ⟨a08, c08, o08, hcell8, hput⟩ := oA8.row (i := 0) hAp
      have hc8 := hcell8 gA 0 _ _ rfl
      rw [Nat.add_zero, (unhide BX) _ m8d] at hc8
      injection hc8 with hc8
      injection hc8 with ha8 hl8 hcc8
      subst ha8
      subst hcc8
      rw [← hl8] at o08 hput
      clear hl8
      have cx := o08.cell (j := x8) (by rw [(unhide HM0).1]; exact hx8N)
      have fx := o08.frozen x8
      refine hK.out _ _ ?_ (fun hHeld => ?_)
      · exact (unhide BX) _ m8d
      clear hK K
      try simp only [Act.put, List.setIfInBounds_toArray, List.set_cons_zero, List.set_cons_succ]
      refine SeqO.take (by rfl) (v := ?hv6) (by rfl) ?hy6 ?hr6
      case hy6 =>
       intro w hSw
       try dsimp only at hSw
       go_simp
       try (with_reducible rfl)
      try simp only [Act.put, List.setIfInBounds_toArray, List.set_cons_zero, List.set_cons_succ]
      refine SeqO.call (by rfl) (fun K hK => ?_)
      go_simp
      skip
      refine hK.out _ _ ?_ (fun hHeld => ?_)
      · exact (cell_block (Below.heap_setCell w8 _ _ gA hneA) _).trans ((unhide BX) _ m8d)
      clear hK K
      try simp only [Act.put, List.setIfInBounds_toArray, List.set_cons_zero, List.set_cons_succ]
      refine SeqO.done (NoPanic.normal ?_)
      have hst := o08.set x8 1
      have oN := hput _ ((nthL A 0).set x8 1) hst.1 (by rw [List.length_set]; exact (unhide HM0).1) hst.2
      have m9 := (mR.trans m8d).own hst.2 (by omega) (by omega)
      have s9 := s8.keep (B := w.heap.size) ((Below.refl w.heap.size w8).grown hst.2 (by have := (mR.trans m8d).size; omega) (fun q hq => by injection hq; omega)) hlt
      have hb9 := hst.2
      obtain ⟨w9, h9⟩ : ∃ z, z = w8.setCell ⟨g0, x8, none⟩ (.int .i64 1) := ⟨_, rfl⟩
      rw [← h9] at oN m9 hb9 s9 ⊢
      have hz9 := m9.size
      have hAM' := set_Mat ok (unhide HAM) hAp x8
      obtain ⟨hC, hmk⟩ := drawn_gc hG (unhide HAM) hAp hx8N (by omega) (by omega) hcapA
      have hfo := l17Form_any w1.heap.size F (some ⟨gA, 0, none⟩) cA _ N w9 (unhide HPF _ m9) hG oN.rd (by rw [List.length_set]; exact hAp) hAM'
      rw [List.length_set] at hfo
      generalize form F (A.set 0 ((nthL A 0).set x8 1)) N = m at hC hmk hfo
      have HFO := hide hfo
      have HC := hide hC
      have HMK := Lib.hid hmk
      clear h9 oN hfo hC hmk hput hst o08 hcell8 oA8 cx fx hAM' hb9
      go_wp2_with fail
      refine (unhide HFO).mono ?_
      rintro e w10 ⟨v10, rfl, o10, b10⟩
      obtain ⟨ra, rc, rfl, _⟩ := o10.form
      have m10 := m9.new (b10.mono hz9) (by omega)
      have hmake := l18Make_any w9.heap.size w1.heap.size F ra rc m w10 (unhide HPF _ m10) ok o10 b10.size
      rw [HMK.out] at hmake
      have HMA := hide hmake
      clear hmake o10
      go_wp2_with fail
      refine (unhide HMA).mono ?_
      rintro e w11 ⟨v11, u11, rfl, o11, q11, b11⟩
      have o11 : Own w11 w9.heap.size v11 F.poly := o11
      have q11 : OwnS w11 w9.heap.size u11 m := q11
      obtain ⟨a11, c11, rfl, _⟩ := o11.form
      obtain ⟨ra11, rc11, rfl, _⟩ := q11.form
      obtain ⟨W12, h12⟩ : ∃ z, z = w11.alloc (.cells #[.int .i64 F.p, .int .i64 F.k, .slice a11 F.poly.length c11, .slice ra11 m.length rc11] 36) := ⟨_, rfl⟩
      have b12 : Below w11.heap.size w11 W12 := by rw [h12]; exact (Below.refl _ _).alloc (Nat.le_refl _) _
      have kC : Blk W12 w11.heap.size 36 #[.int .i64 F.p, .int .i64 F.k, .slice a11 F.poly.length c11, .slice ra11 m.length rc11] := by rw [h12]; exact Blk.new _ _ _ rfl
      have z11 := b11.size
      have z10 := b10.size
      have bb := Below.chain b11 b12
      have m12 := m10.new (bb.mono (by omega)) (by omega)
      have kR := k1.kp (m12.kp (lo' := w.heap.size) (hi' := w.heap.size + 1) (.inr (by omega)) k1.lt)
      have o12 := o11.below b12 (Nat.le_refl _)
      have q12 := q11.below b12 (Nat.le_refl _)
      have s12 := s9.keep (Below.chain b10 bb) (by omega)
      have HS12 := Lib.hid s12
      clear s8 s9 s12
      have e0 := kC.cell 0
      have e1 := kC.cell 1
      have e2 := kC.cell 2
      have e3 := kC.cell 3
      have f0 := kR.cell 0
      have f1 := kR.cell 1
      have f2 := kR.cell 2
      have f3 := kR.cell 3
      have g0 := kR.frozen 0
      have g1 := kR.frozen 1
      have g2 := kR.frozen 2
      have g3 := kR.frozen 3
      have H12 := Lib.hid h12
      clear h12 o11 q11
      go_upto_region 10 with fail
      rw [← H12.out]
      go_wp2
      refine bodyPost_ret (results_cell_row rfl _ _ w.heap.size 36 #[.int .i64 F.p, .int .i64 F.k, .slice a11 F.poly.length c11, .slice ra11 m.length rc11] (0, 0) _ rfl (kR.b4.store _ _ _ _) Tryz.underlying36 rfl (by kernel_rfl)) rfl ⟨⟨F, N, m, _, _, rfl, unhide HC, by omega, ?_, ?_⟩, (mW.trans m12).new (Below.set4 (Below.refl _ _) (Nat.le_refl _) _ _ _ _) (by omega), (HS12.out.keep (B := w.heap.size) (Below.set4 (Below.refl _ _) (Nat.le_refl _) _ _ _ _) hlt).mono (by omega)⟩
      · have hs : w.heap.size < w9.heap.size := by omega
        exact ((((o12.storeBelow hs _).storeBelow hs _).storeBelow hs _).storeBelow hs _).mono (Nat.le_of_lt hs)
      · exact (q12.set4 (by omega) _ _ _ _).mono (by omega)
     | false =>
      obtain ⟨K, hKe⟩ : ∃ K : Nat, K = 1 + x2 := ⟨_, rfl⟩
      obtain ⟨N, hNe⟩ : ∃ N : Nat, N = 1 + x2 + x3 := ⟨_, rfl⟩
      have hKi : (K : Int) = 1 + (x2 : Int) := by omega
      have hNi : (N : Int) = 1 + (x2 : Int) + (x3 : Int) := by omega
      have hK1 : 1 ≤ K := by omega
      have hK8 : K ≤ 5 := by omega
      have hKN : K ≤ N := by omega
      have hN32 : N ≤ 20 := by omega
      have hcap : capTo F.n 4096 K ≤ 4096 := cap9 F.n (by omega) K (by omega)
      go_upto_region 7 with fail
      try clear hfn
      try clear hke
      try clear hpe
      try clear hk1
      try clear hp
      go_wp2_with fail
      have hdr := drawRows_any g (T + 100) w1.heap.size F N K w4 (s4.mono (by omega)) (by omega) (by omega) (by omega) (fun w' m => unhide HPF _ (m14.trans m)) ok
      rw [hKi, hNi] at hdr
      refine hdr.mono ?_
      rintro e wR ⟨vr, A, rfl, hAl, hAM, oA, sA, mA⟩
      have mR := m14.trans mA
      have zR := mR.size
      have z6 := m14.size
      obtain ⟨gA, cA, rfl, hgA, hgA', _, _⟩ := oA.at_ (by omega)
      have hM0 := Mat_nth hAM (i := 0) (by omega)
      obtain ⟨a0, c0, o0, hcell0, _⟩ := oA.row (i := 0) (by omega)
      rw [hM0.1] at o0 hcell0
      obtain ⟨g0, c0', e0', hg0, _, _, _⟩ := o0.at_len hM0.1 (by omega)
      injection e0' with ea _ ec
      subst ea
      subst ec
      have hc0 := hcell0 gA 0 _ _ rfl
      rw [Nat.add_zero] at hc0
      have hneA := oA.ne_row o0
      have boxes : ∀ W, Mk wR W g (g + 1) → W.cell? ⟨gA, 0, none⟩ = some (.slice (some ⟨g0, 0, none⟩) N c0) := fun W m => (cell_block ((m.kp (lo' := gA) (hi' := gA + 1) (by omega) (by omega)).2 gA (Nat.le_refl _) (by omega)) _).trans hc0
      have BX := hide boxes
      have hAp : 0 < A.length := by omega
      have hA5 : A.length ≤ 5 := by omega
      have hcapA : capTo F.n 4096 A.length ≤ 4096 := by rw [hAl]; exact hcap
      have HNI := Lib.hid hNi
      have hpk := pick_any g (T + 100 + 5000 * K) N wR.drew (sA.below (Below.drewn 1)) (by omega)
      rw [hNi] at hpk
      have hdw : Mk wR wR.drew g (g + 1) := Mk.alloc (Below.drewn 1) (by omega)
      have HPK := hide hpk
      have HOA := hide oA
      have HAM := hide hAM
      have HM0 := hide hM0
      clear boxes hpk oA hAM hM0 o0 hcell0 hc0 e0 e1 hdr hAl hKe hKi hNe hNi hcap
      go_upto_region 8 with fail
      refine wp_region_noPanic ?_
      refine wp_region_ord (S := (fun W => W.cell? ⟨gA, 0, none⟩ = some (.slice (some ⟨g0, 0, none⟩) N c0))) [(true, 0), (true, 1), (true, 2), (true, 3), (true, 4), (false, 5), (true, 6), (false, 7)] (by kernel_rfl) (by kernel_rfl) (by kernel_rfl) rfl (fun _ _ _ _ _ h => h) ?_ (fun hHeld => ?_)
      · exact (unhide BX) _ hdw
      refine SeqO.take (by rfl) (v := ?hv7) (by rfl) ?hy7 ?hr7
      case hy7 =>
       intro w hSw
       try dsimp only at hSw
       go_simp
       try (with_reducible rfl)
      try simp only [Act.put, List.setIfInBounds_toArray, List.set_cons_zero, List.set_cons_succ]
      refine SeqO.take (by rfl) (v := ?hv8) (by rfl) ?hy8 ?hr8
      case hy8 =>
       intro w hSw
       try dsimp only at hSw
       go_simp
       try (with_reducible rfl)
      try simp only [Act.put, List.setIfInBounds_toArray, List.set_cons_zero, List.set_cons_succ]
      refine SeqO.take (by rfl) (v := ?hv9) (by rfl) ?hy9 ?hr9
      case hy9 =>
       intro w hSw
       try dsimp only at hSw
       go_simp
       try (with_reducible rfl)
      try simp only [Act.put, List.setIfInBounds_toArray, List.set_cons_zero, List.set_cons_succ]
      refine SeqO.take (by rfl) (v := ?hv10) (by rfl) ?hy10 ?hr10
      case hy10 =>
       intro w hSw
       try dsimp only at hSw
       go_simp
       try (with_reducible rfl)
      try simp only [Act.put, List.setIfInBounds_toArray, List.set_cons_zero, List.set_cons_succ]
      refine SeqO.take (by rfl) (v := ?hv11) (by rfl) ?hy11 ?hr11
      case hy11 =>
       intro w hSw
       try dsimp only at hSw
       go_simp
       try (with_reducible rfl)
      try simp only [Act.put, List.setIfInBounds_toArray, List.set_cons_zero, List.set_cons_succ]
      refine SeqO.call (by rfl) (fun K hK => ?_)
      go_simp
      refine (unhide HPK).mono ?_
      rintro e w8 ⟨x8, rfl, hx8, _, s8, m8⟩
      have hx8N : x8 < N := by have := HNI.out; omega
      have m8d := hdw.trans m8
      have oA8 := (unhide HOA).mk m8d (by omega)
      obtain ⟨a08, c08, o08, hcell8, hput⟩ := oA8.row (i := 0) hAp
      have hc8 := hcell8 gA 0 _ _ rfl
      rw [Nat.add_zero, (unhide BX) _ m8d] at hc8
      injection hc8 with hc8
      injection hc8 with ha8 hl8 hcc8
      subst ha8
      subst hcc8
      rw [← hl8] at o08 hput
      clear hl8
      have cx := o08.cell (j := x8) (by rw [(unhide HM0).1]; exact hx8N)
      have fx := o08.frozen x8
      refine hK.out _ _ ?_ (fun hHeld => ?_)
      · exact (unhide BX) _ m8d
      clear hK K
      try simp only [Act.put, List.setIfInBounds_toArray, List.set_cons_zero, List.set_cons_succ]
      refine SeqO.take (by rfl) (v := ?hv12) (by rfl) ?hy12 ?hr12
      case hy12 =>
       intro w hSw
       try dsimp only at hSw
       go_simp
       try (with_reducible rfl)
      try simp only [Act.put, List.setIfInBounds_toArray, List.set_cons_zero, List.set_cons_succ]
      refine SeqO.call (by rfl) (fun K hK => ?_)
      go_simp
      skip
      refine hK.out _ _ ?_ (fun hHeld => ?_)
      · exact (cell_block (Below.heap_setCell w8 _ _ gA hneA) _).trans ((unhide BX) _ m8d)
      clear hK K
      try simp only [Act.put, List.setIfInBounds_toArray, List.set_cons_zero, List.set_cons_succ]
      refine SeqO.done (NoPanic.normal ?_)
      have hst := o08.set x8 1
      have oN := hput _ ((nthL A 0).set x8 1) hst.1 (by rw [List.length_set]; exact (unhide HM0).1) hst.2
      have m9 := (mR.trans m8d).own hst.2 (by omega) (by omega)
      have s9 := s8.keep (B := w.heap.size) ((Below.refl w.heap.size w8).grown hst.2 (by have := (mR.trans m8d).size; omega) (fun q hq => by injection hq; omega)) hlt
      have hb9 := hst.2
      obtain ⟨w9, h9⟩ : ∃ z, z = w8.setCell ⟨g0, x8, none⟩ (.int .i64 1) := ⟨_, rfl⟩
      rw [← h9] at oN m9 hb9 s9 ⊢
      have hz9 := m9.size
      have hAM' := set_Mat ok (unhide HAM) hAp x8
      obtain ⟨hC, hmk⟩ := drawn_gc hG (unhide HAM) hAp hx8N (by omega) (by omega) hcapA
      have hfo := l17Form_any w1.heap.size F (some ⟨gA, 0, none⟩) cA _ N w9 (unhide HPF _ m9) hG oN.rd (by rw [List.length_set]; exact hAp) hAM'
      rw [List.length_set] at hfo
      generalize form F (A.set 0 ((nthL A 0).set x8 1)) N = m at hC hmk hfo
      have HFO := hide hfo
      have HC := hide hC
      have HMK := Lib.hid hmk
      clear h9 oN hfo hC hmk hput hst o08 hcell8 oA8 cx fx hAM' hb9
      go_wp2_with fail
      refine (unhide HFO).mono ?_
      rintro e w10 ⟨v10, rfl, o10, b10⟩
      obtain ⟨ra, rc, rfl, _⟩ := o10.form
      have m10 := m9.new (b10.mono hz9) (by omega)
      have hmake := l18Make_any w9.heap.size w1.heap.size F ra rc m w10 (unhide HPF _ m10) ok o10 b10.size
      rw [HMK.out] at hmake
      have HMA := hide hmake
      clear hmake o10
      go_wp2_with fail
      refine (unhide HMA).mono ?_
      rintro e w11 ⟨v11, u11, rfl, o11, q11, b11⟩
      have o11 : Own w11 w9.heap.size v11 F.poly := o11
      have q11 : OwnS w11 w9.heap.size u11 m := q11
      obtain ⟨a11, c11, rfl, _⟩ := o11.form
      obtain ⟨ra11, rc11, rfl, _⟩ := q11.form
      obtain ⟨W12, h12⟩ : ∃ z, z = w11.alloc (.cells #[.int .i64 F.p, .int .i64 F.k, .slice a11 F.poly.length c11, .slice ra11 m.length rc11] 36) := ⟨_, rfl⟩
      have b12 : Below w11.heap.size w11 W12 := by rw [h12]; exact (Below.refl _ _).alloc (Nat.le_refl _) _
      have kC : Blk W12 w11.heap.size 36 #[.int .i64 F.p, .int .i64 F.k, .slice a11 F.poly.length c11, .slice ra11 m.length rc11] := by rw [h12]; exact Blk.new _ _ _ rfl
      have z11 := b11.size
      have z10 := b10.size
      have bb := Below.chain b11 b12
      have m12 := m10.new (bb.mono (by omega)) (by omega)
      have kR := k1.kp (m12.kp (lo' := w.heap.size) (hi' := w.heap.size + 1) (.inr (by omega)) k1.lt)
      have o12 := o11.below b12 (Nat.le_refl _)
      have q12 := q11.below b12 (Nat.le_refl _)
      have s12 := s9.keep (Below.chain b10 bb) (by omega)
      have HS12 := Lib.hid s12
      clear s8 s9 s12
      have e0 := kC.cell 0
      have e1 := kC.cell 1
      have e2 := kC.cell 2
      have e3 := kC.cell 3
      have f0 := kR.cell 0
      have f1 := kR.cell 1
      have f2 := kR.cell 2
      have f3 := kR.cell 3
      have g0 := kR.frozen 0
      have g1 := kR.frozen 1
      have g2 := kR.frozen 2
      have g3 := kR.frozen 3
      have H12 := Lib.hid h12
      clear h12 o11 q11
      go_upto_region 10 with fail
      rw [← H12.out]
      go_wp2
      refine bodyPost_ret (results_cell_row rfl _ _ w.heap.size 36 #[.int .i64 F.p, .int .i64 F.k, .slice a11 F.poly.length c11, .slice ra11 m.length rc11] (0, 0) _ rfl (kR.b4.store _ _ _ _) Tryz.underlying36 rfl (by kernel_rfl)) rfl ⟨⟨F, N, m, _, _, rfl, unhide HC, by omega, ?_, ?_⟩, (mW.trans m12).new (Below.set4 (Below.refl _ _) (Nat.le_refl _) _ _ _ _) (by omega), (HS12.out.keep (B := w.heap.size) (Below.set4 (Below.refl _ _) (Nat.le_refl _) _ _ _ _) hlt).mono (by omega)⟩
      · have hs : w.heap.size < w9.heap.size := by omega
        exact ((((o12.storeBelow hs _).storeBelow hs _).storeBelow hs _).storeBelow hs _).mono (Nat.le_of_lt hs)
      · exact (q12.set4 (by omega) _ _ _ _).mono (by omega)
   · have hpe : (F.p == 2) = true := by rw [hp]; rfl
     have hke : ((F.k : Int) == 1) = false := by rw [beq_eq_false_iff_ne]; exact hk1
     obtain ⟨K, hKe⟩ : ∃ K : Nat, K = 1 + x2 := ⟨_, rfl⟩
     obtain ⟨N, hNe⟩ : ∃ N : Nat, N = 1 + x2 + x3 := ⟨_, rfl⟩
     have hKi : (K : Int) = 1 + (x2 : Int) := by omega
     have hNi : (N : Int) = 1 + (x2 : Int) + (x3 : Int) := by omega
     have hK1 : 1 ≤ K := by omega
     have hK8 : K ≤ 5 := by omega
     have hKN : K ≤ N := by omega
     have hN32 : N ≤ 20 := by omega
     have hcap : capTo F.n 4096 K ≤ 4096 := cap9 F.n (by omega) K (by omega)
     go_upto_region 7 with fail
     try clear hfn
     try clear hke
     try clear hpe
     try clear hk1
     try clear hp
     go_wp2_with fail
     have hdr := drawRows_any g (T + 100) w1.heap.size F N K w3 (s3.mono (by omega)) (by omega) (by omega) (by omega) (fun w' m => unhide HPF _ (m13.trans m)) ok
     rw [hKi, hNi] at hdr
     refine hdr.mono ?_
     rintro e wR ⟨vr, A, rfl, hAl, hAM, oA, sA, mA⟩
     have mR := m13.trans mA
     have zR := mR.size
     have z6 := m13.size
     obtain ⟨gA, cA, rfl, hgA, hgA', _, _⟩ := oA.at_ (by omega)
     have hM0 := Mat_nth hAM (i := 0) (by omega)
     obtain ⟨a0, c0, o0, hcell0, _⟩ := oA.row (i := 0) (by omega)
     rw [hM0.1] at o0 hcell0
     obtain ⟨g0, c0', e0', hg0, _, _, _⟩ := o0.at_len hM0.1 (by omega)
     injection e0' with ea _ ec
     subst ea
     subst ec
     have hc0 := hcell0 gA 0 _ _ rfl
     rw [Nat.add_zero] at hc0
     have hneA := oA.ne_row o0
     have boxes : ∀ W, Mk wR W g (g + 1) → W.cell? ⟨gA, 0, none⟩ = some (.slice (some ⟨g0, 0, none⟩) N c0) := fun W m => (cell_block ((m.kp (lo' := gA) (hi' := gA + 1) (by omega) (by omega)).2 gA (Nat.le_refl _) (by omega)) _).trans hc0
     have BX := hide boxes
     have hAp : 0 < A.length := by omega
     have hA5 : A.length ≤ 5 := by omega
     have hcapA : capTo F.n 4096 A.length ≤ 4096 := by rw [hAl]; exact hcap
     have HNI := Lib.hid hNi
     have hpk := pick_any g (T + 100 + 5000 * K) N wR.drew (sA.below (Below.drewn 1)) (by omega)
     rw [hNi] at hpk
     have hdw : Mk wR wR.drew g (g + 1) := Mk.alloc (Below.drewn 1) (by omega)
     have HPK := hide hpk
     have HOA := hide oA
     have HAM := hide hAM
     have HM0 := hide hM0
     clear boxes hpk oA hAM hM0 o0 hcell0 hc0 e0 e1 hdr hAl hKe hKi hNe hNi hcap
     go_upto_region 8 with fail
     refine wp_region_noPanic ?_
     refine wp_region_ord (S := (fun W => W.cell? ⟨gA, 0, none⟩ = some (.slice (some ⟨g0, 0, none⟩) N c0))) [(true, 0), (true, 1), (true, 2), (true, 3), (true, 4), (false, 5), (true, 6), (false, 7)] (by kernel_rfl) (by kernel_rfl) (by kernel_rfl) rfl (fun _ _ _ _ _ h => h) ?_ (fun hHeld => ?_)
     · exact (unhide BX) _ hdw
     refine SeqO.take (by rfl) (v := ?hv13) (by rfl) ?hy13 ?hr13
     case hy13 =>
      intro w hSw
      try dsimp only at hSw
      go_simp
      try (with_reducible rfl)
     try simp only [Act.put, List.setIfInBounds_toArray, List.set_cons_zero, List.set_cons_succ]
     refine SeqO.take (by rfl) (v := ?hv14) (by rfl) ?hy14 ?hr14
     case hy14 =>
      intro w hSw
      try dsimp only at hSw
      go_simp
      try (with_reducible rfl)
     try simp only [Act.put, List.setIfInBounds_toArray, List.set_cons_zero, List.set_cons_succ]
     refine SeqO.take (by rfl) (v := ?hv15) (by rfl) ?hy15 ?hr15
     case hy15 =>
      intro w hSw
      try dsimp only at hSw
      go_simp
      try (with_reducible rfl)
     try simp only [Act.put, List.setIfInBounds_toArray, List.set_cons_zero, List.set_cons_succ]
     refine SeqO.take (by rfl) (v := ?hv16) (by rfl) ?hy16 ?hr16
     case hy16 =>
      intro w hSw
      try dsimp only at hSw
      go_simp
      try (with_reducible rfl)
     try simp only [Act.put, List.setIfInBounds_toArray, List.set_cons_zero, List.set_cons_succ]
     refine SeqO.take (by rfl) (v := ?hv17) (by rfl) ?hy17 ?hr17
     case hy17 =>
      intro w hSw
      try dsimp only at hSw
      go_simp
      try (with_reducible rfl)
     try simp only [Act.put, List.setIfInBounds_toArray, List.set_cons_zero, List.set_cons_succ]
     refine SeqO.call (by rfl) (fun K hK => ?_)
     go_simp
     refine (unhide HPK).mono ?_
     rintro e w8 ⟨x8, rfl, hx8, _, s8, m8⟩
     have hx8N : x8 < N := by have := HNI.out; omega
     have m8d := hdw.trans m8
     have oA8 := (unhide HOA).mk m8d (by omega)
     obtain ⟨a08, c08, o08, hcell8, hput⟩ := oA8.row (i := 0) hAp
     have hc8 := hcell8 gA 0 _ _ rfl
     rw [Nat.add_zero, (unhide BX) _ m8d] at hc8
     injection hc8 with hc8
     injection hc8 with ha8 hl8 hcc8
     subst ha8
     subst hcc8
     rw [← hl8] at o08 hput
     clear hl8
     have cx := o08.cell (j := x8) (by rw [(unhide HM0).1]; exact hx8N)
     have fx := o08.frozen x8
     refine hK.out _ _ ?_ (fun hHeld => ?_)
     · exact (unhide BX) _ m8d
     clear hK K
     try simp only [Act.put, List.setIfInBounds_toArray, List.set_cons_zero, List.set_cons_succ]
     refine SeqO.take (by rfl) (v := ?hv18) (by rfl) ?hy18 ?hr18
     case hy18 =>
      intro w hSw
      try dsimp only at hSw
      go_simp
      try (with_reducible rfl)
     try simp only [Act.put, List.setIfInBounds_toArray, List.set_cons_zero, List.set_cons_succ]
     refine SeqO.call (by rfl) (fun K hK => ?_)
     go_simp
     skip
     refine hK.out _ _ ?_ (fun hHeld => ?_)
     · exact (cell_block (Below.heap_setCell w8 _ _ gA hneA) _).trans ((unhide BX) _ m8d)
     clear hK K
     try simp only [Act.put, List.setIfInBounds_toArray, List.set_cons_zero, List.set_cons_succ]
     refine SeqO.done (NoPanic.normal ?_)
     have hst := o08.set x8 1
     have oN := hput _ ((nthL A 0).set x8 1) hst.1 (by rw [List.length_set]; exact (unhide HM0).1) hst.2
     have m9 := (mR.trans m8d).own hst.2 (by omega) (by omega)
     have s9 := s8.keep (B := w.heap.size) ((Below.refl w.heap.size w8).grown hst.2 (by have := (mR.trans m8d).size; omega) (fun q hq => by injection hq; omega)) hlt
     have hb9 := hst.2
     obtain ⟨w9, h9⟩ : ∃ z, z = w8.setCell ⟨g0, x8, none⟩ (.int .i64 1) := ⟨_, rfl⟩
     rw [← h9] at oN m9 hb9 s9 ⊢
     have hz9 := m9.size
     have hAM' := set_Mat ok (unhide HAM) hAp x8
     obtain ⟨hC, hmk⟩ := drawn_gc hG (unhide HAM) hAp hx8N (by omega) (by omega) hcapA
     have hfo := l17Form_any w1.heap.size F (some ⟨gA, 0, none⟩) cA _ N w9 (unhide HPF _ m9) hG oN.rd (by rw [List.length_set]; exact hAp) hAM'
     rw [List.length_set] at hfo
     generalize form F (A.set 0 ((nthL A 0).set x8 1)) N = m at hC hmk hfo
     have HFO := hide hfo
     have HC := hide hC
     have HMK := Lib.hid hmk
     clear h9 oN hfo hC hmk hput hst o08 hcell8 oA8 cx fx hAM' hb9
     go_wp2_with fail
     refine (unhide HFO).mono ?_
     rintro e w10 ⟨v10, rfl, o10, b10⟩
     obtain ⟨ra, rc, rfl, _⟩ := o10.form
     have m10 := m9.new (b10.mono hz9) (by omega)
     have hmake := l18Make_any w9.heap.size w1.heap.size F ra rc m w10 (unhide HPF _ m10) ok o10 b10.size
     rw [HMK.out] at hmake
     have HMA := hide hmake
     clear hmake o10
     go_wp2_with fail
     refine (unhide HMA).mono ?_
     rintro e w11 ⟨v11, u11, rfl, o11, q11, b11⟩
     have o11 : Own w11 w9.heap.size v11 F.poly := o11
     have q11 : OwnS w11 w9.heap.size u11 m := q11
     obtain ⟨a11, c11, rfl, _⟩ := o11.form
     obtain ⟨ra11, rc11, rfl, _⟩ := q11.form
     obtain ⟨W12, h12⟩ : ∃ z, z = w11.alloc (.cells #[.int .i64 F.p, .int .i64 F.k, .slice a11 F.poly.length c11, .slice ra11 m.length rc11] 36) := ⟨_, rfl⟩
     have b12 : Below w11.heap.size w11 W12 := by rw [h12]; exact (Below.refl _ _).alloc (Nat.le_refl _) _
     have kC : Blk W12 w11.heap.size 36 #[.int .i64 F.p, .int .i64 F.k, .slice a11 F.poly.length c11, .slice ra11 m.length rc11] := by rw [h12]; exact Blk.new _ _ _ rfl
     have z11 := b11.size
     have z10 := b10.size
     have bb := Below.chain b11 b12
     have m12 := m10.new (bb.mono (by omega)) (by omega)
     have kR := k1.kp (m12.kp (lo' := w.heap.size) (hi' := w.heap.size + 1) (.inr (by omega)) k1.lt)
     have o12 := o11.below b12 (Nat.le_refl _)
     have q12 := q11.below b12 (Nat.le_refl _)
     have s12 := s9.keep (Below.chain b10 bb) (by omega)
     have HS12 := Lib.hid s12
     clear s8 s9 s12
     have e0 := kC.cell 0
     have e1 := kC.cell 1
     have e2 := kC.cell 2
     have e3 := kC.cell 3
     have f0 := kR.cell 0
     have f1 := kR.cell 1
     have f2 := kR.cell 2
     have f3 := kR.cell 3
     have g0 := kR.frozen 0
     have g1 := kR.frozen 1
     have g2 := kR.frozen 2
     have g3 := kR.frozen 3
     have H12 := Lib.hid h12
     clear h12 o11 q11
     go_upto_region 10 with fail
     rw [← H12.out]
     go_wp2
     refine bodyPost_ret (results_cell_row rfl _ _ w.heap.size 36 #[.int .i64 F.p, .int .i64 F.k, .slice a11 F.poly.length c11, .slice ra11 m.length rc11] (0, 0) _ rfl (kR.b4.store _ _ _ _) Tryz.underlying36 rfl (by kernel_rfl)) rfl ⟨⟨F, N, m, _, _, rfl, unhide HC, by omega, ?_, ?_⟩, (mW.trans m12).new (Below.set4 (Below.refl _ _) (Nat.le_refl _) _ _ _ _) (by omega), (HS12.out.keep (B := w.heap.size) (Below.set4 (Below.refl _ _) (Nat.le_refl _) _ _ _ _) hlt).mono (by omega)⟩
     · have hs : w.heap.size < w9.heap.size := by omega
       exact ((((o12.storeBelow hs _).storeBelow hs _).storeBelow hs _).storeBelow hs _).mono (Nat.le_of_lt hs)
     · exact (q12.set4 (by omega) _ _ _ _).mono (by omega)
 · have hpe : (F.p == 2) = false := by rw [beq_eq_false_iff_ne]; exact hp
   obtain ⟨K, hKe⟩ : ∃ K : Nat, K = 1 + x2 := ⟨_, rfl⟩
   obtain ⟨N, hNe⟩ : ∃ N : Nat, N = 1 + x2 + x3 := ⟨_, rfl⟩
   have hKi : (K : Int) = 1 + (x2 : Int) := by omega
   have hNi : (N : Int) = 1 + (x2 : Int) + (x3 : Int) := by omega
   have hK1 : 1 ≤ K := by omega
   have hK8 : K ≤ 5 := by omega
   have hKN : K ≤ N := by omega
   have hN32 : N ≤ 20 := by omega
   have hcap : capTo F.n 4096 K ≤ 4096 := cap9 F.n (by omega) K (by omega)
   go_upto_region 7 with fail
   try clear hfn
   try clear hke
   try clear hpe
   try clear hk1
   try clear hp
   go_wp2_with fail
   have hdr := drawRows_any g (T + 100) w1.heap.size F N K w3 (s3.mono (by omega)) (by omega) (by omega) (by omega) (fun w' m => unhide HPF _ (m13.trans m)) ok
   rw [hKi, hNi] at hdr
   refine hdr.mono ?_
   rintro e wR ⟨vr, A, rfl, hAl, hAM, oA, sA, mA⟩
   have mR := m13.trans mA
   have zR := mR.size
   have z6 := m13.size
   obtain ⟨gA, cA, rfl, hgA, hgA', _, _⟩ := oA.at_ (by omega)
   have hM0 := Mat_nth hAM (i := 0) (by omega)
   obtain ⟨a0, c0, o0, hcell0, _⟩ := oA.row (i := 0) (by omega)
   rw [hM0.1] at o0 hcell0
   obtain ⟨g0, c0', e0', hg0, _, _, _⟩ := o0.at_len hM0.1 (by omega)
   injection e0' with ea _ ec
   subst ea
   subst ec
   have hc0 := hcell0 gA 0 _ _ rfl
   rw [Nat.add_zero] at hc0
   have hneA := oA.ne_row o0
   have boxes : ∀ W, Mk wR W g (g + 1) → W.cell? ⟨gA, 0, none⟩ = some (.slice (some ⟨g0, 0, none⟩) N c0) := fun W m => (cell_block ((m.kp (lo' := gA) (hi' := gA + 1) (by omega) (by omega)).2 gA (Nat.le_refl _) (by omega)) _).trans hc0
   have BX := hide boxes
   have hAp : 0 < A.length := by omega
   have hA5 : A.length ≤ 5 := by omega
   have hcapA : capTo F.n 4096 A.length ≤ 4096 := by rw [hAl]; exact hcap
   have HNI := Lib.hid hNi
   have hpk := pick_any g (T + 100 + 5000 * K) N wR.drew (sA.below (Below.drewn 1)) (by omega)
   rw [hNi] at hpk
   have hdw : Mk wR wR.drew g (g + 1) := Mk.alloc (Below.drewn 1) (by omega)
   have HPK := hide hpk
   have HOA := hide oA
   have HAM := hide hAM
   have HM0 := hide hM0
   clear boxes hpk oA hAM hM0 o0 hcell0 hc0 e0 e1 hdr hAl hKe hKi hNe hNi hcap
   go_upto_region 8 with fail
   refine wp_region_noPanic ?_
   refine wp_region_ord (S := (fun W => W.cell? ⟨gA, 0, none⟩ = some (.slice (some ⟨g0, 0, none⟩) N c0))) [(true, 0), (true, 1), (true, 2), (true, 3), (true, 4), (false, 5), (true, 6), (false, 7)] (by kernel_rfl) (by kernel_rfl) (by kernel_rfl) rfl (fun _ _ _ _ _ h => h) ?_ (fun hHeld => ?_)
   · exact (unhide BX) _ hdw
   refine SeqO.take (by rfl) (v := ?hv19) (by rfl) ?hy19 ?hr19
   case hy19 =>
    intro w hSw
    try dsimp only at hSw
    go_simp
    try (with_reducible rfl)
   try simp only [Act.put, List.setIfInBounds_toArray, List.set_cons_zero, List.set_cons_succ]
   refine SeqO.take (by rfl) (v := ?hv20) (by rfl) ?hy20 ?hr20
   case hy20 =>
    intro w hSw
    try dsimp only at hSw
    go_simp
    try (with_reducible rfl)
   try simp only [Act.put, List.setIfInBounds_toArray, List.set_cons_zero, List.set_cons_succ]
   refine SeqO.take (by rfl) (v := ?hv21) (by rfl) ?hy21 ?hr21
   case hy21 =>
    intro w hSw
    try dsimp only at hSw
    go_simp
    try (with_reducible rfl)
   try simp only [Act.put, List.setIfInBounds_toArray, List.set_cons_zero, List.set_cons_succ]
   refine SeqO.take (by rfl) (v := ?hv22) (by rfl) ?hy22 ?hr22
   case hy22 =>
    intro w hSw
    try dsimp only at hSw
    go_simp
    try (with_reducible rfl)
   try simp only [Act.put, List.setIfInBounds_toArray, List.set_cons_zero, List.set_cons_succ]
   refine SeqO.take (by rfl) (v := ?hv23) (by rfl) ?hy23 ?hr23
   case hy23 =>
    intro w hSw
    try dsimp only at hSw
    go_simp
    try (with_reducible rfl)
   try simp only [Act.put, List.setIfInBounds_toArray, List.set_cons_zero, List.set_cons_succ]
   refine SeqO.call (by rfl) (fun K hK => ?_)
   go_simp
   refine (unhide HPK).mono ?_
   rintro e w8 ⟨x8, rfl, hx8, _, s8, m8⟩
   have hx8N : x8 < N := by have := HNI.out; omega
   have m8d := hdw.trans m8
   have oA8 := (unhide HOA).mk m8d (by omega)
   obtain ⟨a08, c08, o08, hcell8, hput⟩ := oA8.row (i := 0) hAp
   have hc8 := hcell8 gA 0 _ _ rfl
   rw [Nat.add_zero, (unhide BX) _ m8d] at hc8
   injection hc8 with hc8
   injection hc8 with ha8 hl8 hcc8
   subst ha8
   subst hcc8
   rw [← hl8] at o08 hput
   clear hl8
   have cx := o08.cell (j := x8) (by rw [(unhide HM0).1]; exact hx8N)
   have fx := o08.frozen x8
   refine hK.out _ _ ?_ (fun hHeld => ?_)
   · exact (unhide BX) _ m8d
   clear hK K
   try simp only [Act.put, List.setIfInBounds_toArray, List.set_cons_zero, List.set_cons_succ]
   refine SeqO.take (by rfl) (v := ?hv24) (by rfl) ?hy24 ?hr24
   case hy24 =>
    intro w hSw
    try dsimp only at hSw
    go_simp
    try (with_reducible rfl)
   try simp only [Act.put, List.setIfInBounds_toArray, List.set_cons_zero, List.set_cons_succ]
   refine SeqO.call (by rfl) (fun K hK => ?_)
   go_simp
   skip
   refine hK.out _ _ ?_ (fun hHeld => ?_)
   · exact (cell_block (Below.heap_setCell w8 _ _ gA hneA) _).trans ((unhide BX) _ m8d)
   clear hK K
   try simp only [Act.put, List.setIfInBounds_toArray, List.set_cons_zero, List.set_cons_succ]
   refine SeqO.done (NoPanic.normal ?_)
   have hst := o08.set x8 1
   have oN := hput _ ((nthL A 0).set x8 1) hst.1 (by rw [List.length_set]; exact (unhide HM0).1) hst.2
   have m9 := (mR.trans m8d).own hst.2 (by omega) (by omega)
   have s9 := s8.keep (B := w.heap.size) ((Below.refl w.heap.size w8).grown hst.2 (by have := (mR.trans m8d).size; omega) (fun q hq => by injection hq; omega)) hlt
   have hb9 := hst.2
   obtain ⟨w9, h9⟩ : ∃ z, z = w8.setCell ⟨g0, x8, none⟩ (.int .i64 1) := ⟨_, rfl⟩
   rw [← h9] at oN m9 hb9 s9 ⊢
   have hz9 := m9.size
   have hAM' := set_Mat ok (unhide HAM) hAp x8
   obtain ⟨hC, hmk⟩ := drawn_gc hG (unhide HAM) hAp hx8N (by omega) (by omega) hcapA
   have hfo := l17Form_any w1.heap.size F (some ⟨gA, 0, none⟩) cA _ N w9 (unhide HPF _ m9) hG oN.rd (by rw [List.length_set]; exact hAp) hAM'
   rw [List.length_set] at hfo
   generalize form F (A.set 0 ((nthL A 0).set x8 1)) N = m at hC hmk hfo
   have HFO := hide hfo
   have HC := hide hC
   have HMK := Lib.hid hmk
   clear h9 oN hfo hC hmk hput hst o08 hcell8 oA8 cx fx hAM' hb9
   go_wp2_with fail
   refine (unhide HFO).mono ?_
   rintro e w10 ⟨v10, rfl, o10, b10⟩
   obtain ⟨ra, rc, rfl, _⟩ := o10.form
   have m10 := m9.new (b10.mono hz9) (by omega)
   have hmake := l18Make_any w9.heap.size w1.heap.size F ra rc m w10 (unhide HPF _ m10) ok o10 b10.size
   rw [HMK.out] at hmake
   have HMA := hide hmake
   clear hmake o10
   go_wp2_with fail
   refine (unhide HMA).mono ?_
   rintro e w11 ⟨v11, u11, rfl, o11, q11, b11⟩
   have o11 : Own w11 w9.heap.size v11 F.poly := o11
   have q11 : OwnS w11 w9.heap.size u11 m := q11
   obtain ⟨a11, c11, rfl, _⟩ := o11.form
   obtain ⟨ra11, rc11, rfl, _⟩ := q11.form
   obtain ⟨W12, h12⟩ : ∃ z, z = w11.alloc (.cells #[.int .i64 F.p, .int .i64 F.k, .slice a11 F.poly.length c11, .slice ra11 m.length rc11] 36) := ⟨_, rfl⟩
   have b12 : Below w11.heap.size w11 W12 := by rw [h12]; exact (Below.refl _ _).alloc (Nat.le_refl _) _
   have kC : Blk W12 w11.heap.size 36 #[.int .i64 F.p, .int .i64 F.k, .slice a11 F.poly.length c11, .slice ra11 m.length rc11] := by rw [h12]; exact Blk.new _ _ _ rfl
   have z11 := b11.size
   have z10 := b10.size
   have bb := Below.chain b11 b12
   have m12 := m10.new (bb.mono (by omega)) (by omega)
   have kR := k1.kp (m12.kp (lo' := w.heap.size) (hi' := w.heap.size + 1) (.inr (by omega)) k1.lt)
   have o12 := o11.below b12 (Nat.le_refl _)
   have q12 := q11.below b12 (Nat.le_refl _)
   have s12 := s9.keep (Below.chain b10 bb) (by omega)
   have HS12 := Lib.hid s12
   clear s8 s9 s12
   have e0 := kC.cell 0
   have e1 := kC.cell 1
   have e2 := kC.cell 2
   have e3 := kC.cell 3
   have f0 := kR.cell 0
   have f1 := kR.cell 1
   have f2 := kR.cell 2
   have f3 := kR.cell 3
   have g0 := kR.frozen 0
   have g1 := kR.frozen 1
   have g2 := kR.frozen 2
   have g3 := kR.frozen 3
   have H12 := Lib.hid h12
   clear h12 o11 q11
   go_upto_region 10 with fail
   rw [← H12.out]
   go_wp2
   refine bodyPost_ret (results_cell_row rfl _ _ w.heap.size 36 #[.int .i64 F.p, .int .i64 F.k, .slice a11 F.poly.length c11, .slice ra11 m.length rc11] (0, 0) _ rfl (kR.b4.store _ _ _ _) Tryz.underlying36 rfl (by kernel_rfl)) rfl ⟨⟨F, N, m, _, _, rfl, unhide HC, by omega, ?_, ?_⟩, (mW.trans m12).new (Below.set4 (Below.refl _ _) (Nat.le_refl _) _ _ _ _) (by omega), (HS12.out.keep (B := w.heap.size) (Below.set4 (Below.refl _ _) (Nat.le_refl _) _ _ _ _) hlt).mono (by omega)⟩
   · have hs : w.heap.size < w9.heap.size := by omega
     exact ((((o12.storeBelow hs _).storeBelow hs _).storeBelow hs _).storeBelow hs _).mono (Nat.le_of_lt hs)
   · exact (q12.set4 (by omega) _ _ _ _).mono (by omega)
theorem l18Draw_any (g T : Nat) (w : World) (h : Src w g T) (hT : T ≤ 1000000) :
    Calls Tryz.prog 35 #[.pointer (some ⟨g, 0, none⟩)] w fun e w' => CodeD w e w' ∧ Mk w w' g (g + 1) := (l18Draw_src g T w h hT).mono fun _ _ h => ⟨h.1, h.2.1⟩
theorem V8Code_any (a : Option Addr) (c : Nat) (bs : List Int) (w : World) (h : RdB w a bs) :
    Calls Tryz.prog 10 #[.slice a bs.length c] w fun e w' => CodeD w e w' ∧ Below w.heap.size w w' := by
 obtain ⟨W0, hW0⟩ : ∃ W0, W0 = w.alloc (.cells #[.int .i64 0, .int .i64 0, .slice none 0 0, .slice none 0 0] 36) := ⟨_, rfl⟩
 have b0 : Below w.heap.size w W0 := by rw [hW0]; exact (Below.refl _ _).alloc (Nat.le_refl _) _
 have k0 : Blk W0 w.heap.size 36 #[.int .i64 0, .int .i64 0, .slice none 0 0, .slice none 0 0] := by rw [hW0]; exact Blk.new _ _ _ rfl
 have z0 : w.heap.size < W0.heap.size := k0.lt
 have HB := hide (h.below b0)
 have HW := Lib.hid hW0
 clear hW0 h
 go_enter Tryz.func10, Tryz.ntmps10
 go_upto_region 1 with fail
 rw [← HW.out]
 go_wp2_with fail
 refine (from_any a c bs W0 (unhide HB)).mono ?_
 rintro e w1 ⟨rfl, s1, b1, z1⟩
 go_wp2_with fail
 refine (l18Draw_any W0.heap.size 0 w1 s1 (by omega)).mono ?_
 rintro e w2 ⟨⟨F, n, m, v, u, rfl, hC, hn20, o2, q2⟩, m2⟩
 have k2 := (k0.below b1 k0.lt).kp (m2.kp (.inl (by omega)) (by omega))
 have z2 := m2.size
 obtain ⟨a2, c2, rfl, _⟩ := o2.form
 obtain ⟨ra2, rc2, rfl, _⟩ := q2.form
 have b02 := b0.trans ((b1.trans m2.1).mono (by omega))
 have f0 := k2.cell 0
 have f1 := k2.cell 1
 have f2 := k2.cell 2
 have f3 := k2.cell 3
 have g0 := k2.frozen 0
 have g1 := k2.frozen 1
 have g2 := k2.frozen 2
 have g3 := k2.frozen 3
 go_wp2
 refine bodyPost_ret (results_cell_row rfl _ _ w.heap.size 36 #[.int .i64 F.p, .int .i64 F.k, .slice a2 F.poly.length c2, .slice ra2 m.length rc2] (0, 0) _ rfl (k2.b4.store _ _ _ _) Tryz.underlying36 rfl (by kernel_rfl)) rfl ⟨⟨F, n, m, _, _, rfl, hC, hn20, ?_, ?_⟩, Below.set4 b02 (Nat.le_refl _) _ _ _ _⟩
 · have hs : w.heap.size < w1.heap.size := by omega
   exact ((((o2.storeBelow hs _).storeBelow hs _).storeBelow hs _).storeBelow hs _).mono (Nat.le_of_lt hs)
 · exact (q2.set4 (by omega) _ _ _ _).mono (by omega)
end Go.Proofs.YtkiljcbejmiioaaGreat
namespace Go.Proofs.YtkiljcbejmiioaaGreat
open Go.RowKit
attribute [local go_sem ↓] Go.wp_at_zero Go.wp_at_succ
theorem l03Has_any (g : Nat) (F : FD) (a b : Int) (w : World) (hF : PF w g F) (hG : F.Good) (ha : 0 ≤ a ∧ a < F.n) (hb : 0 ≤ b ∧ b < F.n) :
    Calls Tryz.prog 43 #[.pointer (some ⟨g, 0, none⟩), .int .i64 a, .int .i64 b] w fun e w' => e = .returned (.bool true) ∧ Below w.heap.size w w' := by
 have ok := hG.ok
 obtain ⟨n2, n64⟩ := ok.n_bd
 obtain ⟨fa, fc, h2, h3⟩ := hF.2.2
 have hok := l03Ok_any g F.p F.k fa fc F.poly w ⟨hF.1, hF.2.1, h2, h3⟩
 rw [hG.okF] at hok
 have hsz := fun W (h : Below w.heap.size w W) => l03Size_any g F W (hF.below h) ok
 have HOK := hide hok
 have HSZ := hide hsz
 clear hok hsz h2 h3 hF
 go_enter Tryz.func43, Tryz.ntmps43
 go_wp2_with fail
 refine (unhide HOK).mono ?_
 rintro e w1 ⟨rfl, b1⟩
 go_wp2_with fail
 refine (unhide HSZ _ b1).mono ?_
 rintro e w2 ⟨rfl, b2⟩
 have d2 := Below.chain b1 b2
 go_wp2_with fail
 refine (l00In_any a 0 ((F.n : Int) - 1) w2).mono ?_
 rintro e w3 ⟨rfl, rfl⟩
 rw [inB_true.2 ⟨ha.1, by omega⟩]
 go_wp2_with fail
 refine (unhide HSZ _ d2).mono ?_
 rintro e w4 ⟨rfl, b4⟩
 have d4 := Below.chain d2 b4
 go_wp2_with fail
 refine (l00In_any b 0 ((F.n : Int) - 1) w4).mono ?_
 rintro e w5 ⟨rfl, rfl⟩
 rw [inB_true.2 ⟨hb.1, by omega⟩]
 go_wp2
 go_ret
 exact ⟨rfl, d4⟩
theorem fieldAdd_any (F : FD) (fa : Option Addr) (fc : Nat) (a b : Int) (w : World) (hF : Rd w fa F.poly) (hG : F.Good) (ha : 0 ≤ a ∧ a < F.n) (hb : 0 ≤ b ∧ b < F.n) :
    Calls Tryz.prog 17 #[.agg #[.int .i64 F.p, .int .i64 F.k, .slice fa F.poly.length fc], .int .i64 a, .int .i64 b] w fun e w' => e = .returned (.int .i64 (F.add a b)) ∧ Below w.heap.size w w' := by
 have ok := hG.ok
 obtain ⟨n2, n64⟩ := ok.n_bd
 obtain ⟨W0, hW0⟩ : ∃ W0, W0 = w.alloc (.cells #[.int .i64 F.p, .int .i64 F.k, .slice fa F.poly.length fc] 30) := ⟨_, rfl⟩
 have b0 : Below w.heap.size w W0 := by rw [hW0]; exact (Below.refl _ _).alloc (Nat.le_refl _) _
 have hP : PF W0 w.heap.size F := by rw [hW0]; exact PF.box hF
 have HH := hide (l03Has_any w.heap.size F a b W0 hP hG ha hb)
 have hs := fun W (h : Below W0.heap.size W0 W) => l03Sum_any w.heap.size F a b 1 W (hP.below h) ok ha.1 (by omega) hb.1 (by omega) (by omega) (by omega)
 have HS := hide hs
 have HW := Lib.hid hW0
 clear hW0 hP hs hF
 go_enter Tryz.func17, Tryz.ntmps17
 go_upto_region 1 with fail
 rw [← HW.out]
 go_wp2_with fail
 refine (unhide HH).mono ?_
 rintro e w1 ⟨rfl, b1⟩
 go_wp2_with fail
 refine (unhide HS _ b1).mono ?_
 rintro e w2 ⟨rfl, b2⟩
 go_wp2
 go_ret
 exact ⟨rfl, Below.chain (Below.chain b0 b1) b2⟩
end Go.Proofs.YtkiljcbejmiioaaGreat
