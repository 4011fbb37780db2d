/-
  Texts joined.
-/
import Derived.Test.YtohghnoihbjmcaaHE7
import Derived.Test.YtohghnoihbjmcaaHE14
import Derived.Test.YtohghnoihbjmcaaHE15
set_option linter.unusedVariables false
set_option linter.unusedSimpArgs false
set_option maxRecDepth 100000
set_option maxHeartbeats 40000000
namespace Go.Proofs.Ytohghnoihbjmcaa
open Go.RowKit
attribute [local go_sem ↓] Go.wp_at_zero Go.wp_at_succ
theorem compactE_own {w : World} {B : Nat} {v : Value} {es : List (Int × Int)} (h : OwnE w B v es) :
    Calls Try.prog 80 #[v] w fun e w' => ∃ v', e = .returned v' ∧ OwnE w' B v' (cmpct sameE es) ∧ w.grownBy w' v.ownBlock := by
 rcases h.slice_form with ⟨rfl, rfl⟩ | ⟨g, c, rfl, hB, hg⟩
 · go_enter Try.func80, Try.ntmps80
   go_wp2
   go_ret
   exact ⟨_, rfl, OwnE.nil _ _, World.grownBy.refl _ _⟩
 · have hcap : es.length ≤ c := by
     rcases h.2.2 with ⟨e, _⟩ | ⟨g', cap', cur, e, _, _, hn, _⟩
     · cases e
     · injection e with _ _ e
       omega
   refine (compactE_any h hcap).mono ?_
   rintro e w' ⟨m, rfl, o, gr⟩
   exact ⟨_, rfl, o, gr⟩
def ordA (es : List (Int × Int)) (k : Nat) : List (Int × Int) := (es.take k).map ordE
theorem ordA_len (es : List (Int × Int)) {k : Nat} (h : k ≤ es.length) : (ordA es k).length = k := by simp [ordA]; omega
theorem ordA_succ {es : List (Int × Int)} {k : Nat} (h : k < es.length) : ordA es (k + 1) = ordA es k ++ [ordE (nthE es k)] := by rw [ordA, ordA, take_nthE h, List.map_append]; rfl
def Srt (es gs : List (Int × Int)) : Prop := ∃ fs : List (Int × Int), fs.Perm (es.map ordE) ∧ fs.Pairwise (fun a b => ¬ LtE b a) ∧ gs = cmpct sameE fs
theorem Srt.edges {n : Nat} {es gs : List (Int × Int)} (h : Srt es gs) (hi : ∀ e ∈ es, 0 ≤ e.1 ∧ e.1 < n ∧ 0 ≤ e.2 ∧ e.2 < n ∧ e.1 ≠ e.2) : gs = edgesT n (adjE es) n := by
 obtain ⟨fs, h1, h2, rfl⟩ := h
 exact made_edges hi h1 h2
theorem Srt.len {es gs : List (Int × Int)} (h : Srt es gs) : gs.length ≤ es.length := by
 obtain ⟨fs, h1, h2, rfl⟩ := h
 have := cmpct_len sameE fs
 have h3 := h1.length_eq
 rw [List.length_map] at h3
 omega
theorem sortedEdges_any (ra : Option Addr) (rc : Nat) (es : List (Int × Int)) (w : World) (hes : RdE w ra es) :
    Calls Try.prog 59 #[.slice ra es.length rc] w fun e w' => ∃ v gs, e = .returned v ∧ Srt es gs ∧ OwnE w' w.heap.size v gs ∧ Below w.heap.size w w' := by
 have hel := hes.len
 have HES := hide hes
 have O0 := hide (show OwnE w w.heap.size (.slice none 0 0) (ordA es 0) from OwnE.nil _ _)
 clear hes
 go_enter Try.func59, Try.ntmps59
 go_wp2_with fail
 go_loopw [3, 8] (fun v iv wr => ∃ k : Nat, iv = .int .i64 k ∧ k ≤ es.length ∧ Hid (OwnE wr w.heap.size v (ordA es k)) ∧ Below w.heap.size w wr) (fun _ iv _ => es.length - (intOf iv).toNat)
 case atStart => exact ⟨0, rfl, Nat.zero_le _, O0, Below.refl _ _⟩
 case round =>
  obtain ⟨k, rfl, hk, ho, hb⟩ := hrel
  have hsz := hb.size
  by_cases hkl : k < es.length
  · obtain ⟨b1, o1, rfl, hbb, hcx⟩ := (unhide HES).at_ (by omega)
    obtain ⟨hx1, hx2⟩ := hcx k hkl
    obtain ⟨x, hx⟩ : ∃ z, z = (nthE es k).1 := ⟨_, rfl⟩
    obtain ⟨y, hy⟩ : ∃ z, z = (nthE es k).2 := ⟨_, rfl⟩
    have he : nthE es k = (x, y) := by rw [hx, hy]
    rw [← hx] at hx1
    rw [← hy] at hx2
    have hx1 := (hb.cell (p := ⟨b1, o1 + k * 2, none⟩) hbb).trans hx1
    have hx2 := (hb.cell (p := ⟨b1, o1 + k * 2 + 1, none⟩) hbb).trans hx2
    have hst := ordA_succ hkl
    rw [he] at hst
    have hle := ordA_len es hk
    obtain ⟨L, hL⟩ : ∃ L, L = ordA es k := ⟨_, rfl⟩
    rw [← hL] at ho hst hle
    obtain ⟨wE, hwE⟩ : ∃ wE, wE = wr.alloc (.cells #[.int .i64 x, .int .i64 y] 58) := ⟨_, rfl⟩
    have hbE : Below wr.heap.size wr wE := by rw [hwE]; exact (Below.refl _ _).alloc (Nat.le_refl _) _
    have kE : Blk wE wr.heap.size 58 #[.int .i64 x, .int .i64 y] := by rw [hwE]; exact Blk.new _ _ _ rfl
    have hbE0 := hb.trans (hbE.mono hsz)
    have HWE := Lib.hid hwE
    have HLE := Lib.hid hle
    have e0 := kE.cell 0
    have e1 := kE.cell 1
    have oE := ho.out.below hbE (Nat.le_refl _)
    obtain ⟨ea, ec, rfl⟩ := oE.slice_val
    have OE := hide oE
    have sE := hbE0.size
    clear hx hy hwE hcx hL hle ho oE he
    go_upto_region 5 with fail
    rw [← HWE.out]
    by_cases hxy : x < y
    · rw [show ordE (x, y) = (x, y) by simp [ordE, hxy]] at hst
      have HST := Lib.hid hst
      have hmn : min x y = x := by omega
      have hmx : max x y = y := by omega
      clear hst
      go_wp2_with (at_builtin; refine wpList_append_edge rfl (.tmp 12) (.tmp 24) rfl rfl ((unhide OE).below ((Below.refl _ _).alloc (Nat.le_refl _) _) (Nat.le_refl _)) (x, y) wE.heap.size rfl ((Blk.new wE 58 #[.int .i64 x, .int .i64 y] rfl).cell 0) ((Blk.new wE 58 #[.int .i64 x, .int .i64 y] rfl).cell 1) (by simp; omega) (by rw [HLE.out]; omega) ?_; intro v5 w5 o5 g5 _)
      go_roundw
      case rel => exact ⟨k + 1, by go_num, by omega, by show OwnE _ _ _ _; rw [HST.out]; exact o5, (hbE0.alloc (by omega) _).grown g5 (by simp; omega) (fun q hq => ((unhide OE).lt q hq).1)⟩
      case measure => simp only [intOf]; omega
    · rw [show ordE (x, y) = (y, x) by simp [ordE, hxy]] at hst
      have HST := Lib.hid hst
      have hmn : min x y = y := by omega
      have hmx : max x y = x := by omega
      clear hst
      go_wp2_with (at_builtin; refine wpList_append_edge rfl (.tmp 12) (.tmp 24) rfl rfl ((unhide OE).below ((Below.refl _ _).alloc (Nat.le_refl _) _) (Nat.le_refl _)) (y, x) wE.heap.size rfl ((Blk.new wE 58 #[.int .i64 y, .int .i64 x] rfl).cell 0) ((Blk.new wE 58 #[.int .i64 y, .int .i64 x] rfl).cell 1) (by simp; omega) (by rw [HLE.out]; omega) ?_; intro v5 w5 o5 g5 _)
      go_roundw
      case rel => exact ⟨k + 1, by go_num, by omega, by show OwnE _ _ _ _; rw [HST.out]; exact o5, (hbE0.alloc (by omega) _).grown g5 (by simp; omega) (fun q hq => ((unhide OE).lt q hq).1)⟩
      case measure => simp only [intOf]; omega
  · have hke : k = es.length := by omega
    have oS := ho.out
    rw [hke] at oS
    have hso := sortE_own oS
    have HSO := hide hso
    have OS := hide oS
    clear hso oS ho hke
    go_wp2_with fail
    refine (unhide HSO).mono ?_
    rintro e w6 ⟨rfl, fs, hp, hs, o6, g6⟩
    have hb6 := hb.grown g6 (by omega) (fun q hq => ((unhide OS).lt q hq).1)
    have hco := compactE_own o6
    have HCO := hide hco
    have O6 := hide o6.lt
    have HP := hide hp
    have HS := hide hs
    clear hco o6 hp hs g6
    go_wp2_with fail
    refine (unhide HCO).mono ?_
    rintro e w7 ⟨v7, rfl, o7, g7⟩
    have hb7 := hb6.grown g7 hb6.size (fun q hq => ((unhide O6) q hq).1)
    go_wp2
    go_ret
    exact ⟨_, _, rfl, ⟨fs, by have h := unhide HP; rw [ordA, List.take_length] at h; exact h, unhide HS, rfl⟩, o7, hb7⟩
end Go.Proofs.Ytohghnoihbjmcaa
