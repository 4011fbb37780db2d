/-
  Texts joined.
-/
import Derived.Test.YtgfcbmflnldicaaDoorGT10
import Derived.Test.YtgfcbmflnldicaaDoorGT11
import Derived.Test.YtgfcbmflnldicaaDoorGT12
set_option linter.unusedVariables false
set_option linter.unusedSimpArgs false
set_option maxRecDepth 100000
set_option maxHeartbeats 40000000
namespace Go.Proofs.YtgfcbmflnldicaaDoor
open Go.RowKit
attribute [local go_sem ↓] Go.wp_at_zero Go.wp_at_succ
def gtRes (xs : List Int) (es : List (Int × Int)) : List UInt8 := if okG xs es = true then textG xs es else []
theorem specGT_any (a : Option Addr) (c : Nat) (xs : List Int) (ra : Option Addr) (rc : Nat) (es : List (Int × Int)) (w : World) (hx : Rd w a xs) (hes : RdE w ra es) :
    Calls Tryd.prog 5 #[.agg #[.slice a xs.length c, .slice ra es.length rc]] w fun e w' => e = .returned (.string ⟨(gtRes xs es).toArray⟩) ∧ Below w.heap.size w w' := by
 obtain ⟨w0, hw0⟩ : ∃ w0, w0 = w.alloc (.cells #[.slice a xs.length c, .slice ra es.length rc] 30) := ⟨_, rfl⟩
 have hb0 : Below w.heap.size w w0 := by rw [hw0]; exact (Below.refl _ _).alloc (Nat.le_refl _) _
 have kA : Blk w0 w.heap.size 30 #[.slice a xs.length c, .slice ra es.length rc] := by rw [hw0]; exact Blk.new _ _ _ rfl
 have f0 := kA.cell 0
 have f1 := kA.cell 1
 have HOK := hide (l21Ok_any a ra c rc xs es w0 (hx.below hb0) (hes.below hb0))
 have HX := hide (hx.below hb0)
 have HE := hide (hes.below hb0)
 have HW := Lib.hid hw0
 have zk := kA.lt
 have KA := hide kA
 clear hw0 hx hes kA
 rw [HW.out] at f0 f1
 go_enter Tryd.func5, Tryd.ntmps5
 go_wp2_with fail
 rw [← HW.out]
 refine (unhide HOK).mono ?_
 rintro e w1 ⟨rfl, b1⟩
 cases hk : okG xs es with
 | false =>
  have HR := Lib.hid (show gtRes xs es = [] by rw [gtRes, hk]; rfl)
  go_wp2
  go_ret
  exact ⟨by rw [HR.out]; rfl, hb0.trans (b1.mono hb0.size)⟩
 | true =>
  have HR := Lib.hid (show gtRes xs es = textG xs es by rw [gtRes, hk]; rfl)
  have HT := hide (l21Text_any a c xs ra rc es w1 ((unhide HX).below b1) ((unhide HE).below b1) hk)
  clear f0 f1
  have k1 := (unhide KA).below b1 zk
  have f0 := k1.cell 0
  have f1 := k1.cell 1
  clear k1 hk
  go_wp2_with fail
  refine (unhide HT).mono ?_
  rintro e w2 ⟨rfl, b2⟩
  have hbb := (hb0.trans (b1.mono hb0.size)).trans (b2.mono (hb0.trans (b1.mono hb0.size)).size)
  go_wp2
  go_ret
  exact ⟨by rw [HR.out]; rfl, hbb⟩
theorem implDec_any (n : Nat) (hn : n < 100) (w : World) :
    Calls Tryd.prog 16 #[.int .i64 n] w fun e w' => e = .returned (.string ⟨(Lib.decDigits n).toArray⟩) ∧ w = w' := by
 have HF := hide (strconv_FormatInt_10_small n hn w)
 go_enter Tryd.func16, Tryd.ntmps16
 go_wp2_with fail
 refine (unhide HF).mono ?_
 rintro e w1 ⟨rfl, rfl⟩
 go_wp2
 go_ret
 exact ⟨rfl, rfl⟩
theorem Tryd.infoStr : (Tryd.prog.info? 9).map (fun i => (i.zero, i.size, i.bytes)) = some (some (.string ⟨#[]⟩), 1, 16) := by kernel_rfl
end Go.Proofs.YtgfcbmflnldicaaDoor
namespace Go.Proofs.YtgfcbmflnldicaaDoor
open Go.RowKit
attribute [local go_sem ↓] Go.wp_at_zero Go.wp_at_succ
def notBig (x : Int) : Bool := !inB x (-999999999) 999999999
theorem listText1_any (x : Int) (w : World) : Calls Tryd.prog 32 #[.int .i64 x] w fun e w' => e = .returned (.bool (notBig x)) ∧ w = w' := by
 go_enter Tryd.func32, Tryd.ntmps32
 go_wp2_with fail
 refine (within_any x (-999999999) 999999999 w).mono ?_
 rintro e w1 ⟨rfl, rfl⟩
 go_wp2
 go_ret
 exact ⟨rfl, rfl⟩
theorem idx_notBig (a : Option Addr) (c : Nat) (xs : List Int) (w : World) (hx : Rd w a xs) :
    Calls Tryd.prog 43 #[.slice a xs.length c, .func (.func 32) #[] #[]] w fun e w' => e = .returned (.int .i64 (firstOf notBig xs)) ∧ w = w' := by
 have hxl := hx.len
 go_enter Tryd.func43, Tryd.ntmps43
 go_wp2_with fail
 go_loop [8] (fun i => ∃ k : Nat, i = .int .i64 k ∧ k ≤ xs.length ∧ Hid (∀ j, j < k → notBig (nth xs j) = false)) (fun i => xs.length - (intOf i).toNat)
 case atStart => exact ⟨0, rfl, Nat.zero_le _, fun j hj => by omega⟩
 case round =>
  obtain ⟨k, rfl, hk, hq⟩ := hrel
  by_cases hkl : k < xs.length
  · obtain ⟨b1, o1, rfl, _, hc⟩ := hx.at_ (by omega)
    have h1 := hc k hkl
    clear hc hx
    obtain ⟨r, hr⟩ : ∃ r, notBig (nth xs k) = r := ⟨_, rfl⟩
    have HR := Lib.hid hr
    have hcl := listText1_any (nth xs k) w
    rw [hr] at hcl
    have HC := hide hcl
    clear hr hcl
    go_wp2_with fail
    refine (unhide HC).mono ?_
    rintro e w1 ⟨rfl, rfl⟩
    cases r
    · go_wp2
      go_round
      case rel =>
       refine ⟨k + 1, by go_num, by omega, fun j hj => ?_⟩
       rcases Nat.lt_succ_iff_lt_or_eq.1 hj with h | rfl
       · exact hq.out j h
       · exact HR.out
      case measure => simp [intOf]; omega
    · go_wp2
      go_ret
      exact ⟨ret_int (firstOf_yes hkl HR.out hq.out).symm, rfl⟩
  · go_wp2
    go_ret
    exact ⟨ret_int (firstOf_no (fun j hj => hq.out j (by omega))).symm, rfl⟩
theorem has_notBig (a : Option Addr) (c : Nat) (xs : List Int) (w : World) (hx : Rd w a xs) :
    Calls Tryd.prog 31 #[.slice a xs.length c, .func (.func 32) #[] #[]] w fun e w' => e = .returned (.bool (xs.any notBig)) ∧ w = w' := by
 have hc := idx_notBig a c xs w hx
 rw [any_firstOf]
 generalize hf : firstOf notBig xs = r at hc
 have HF := Lib.hid hf
 have HC := hide hc
 clear hf hc
 by_cases h0 : 0 ≤ r
 · go_enter Tryd.func31, Tryd.ntmps31
   go_wp2_with fail
   refine (unhide HC).mono ?_
   rintro e w1 ⟨rfl, rfl⟩
   go_wp2
   go_ret
   exact ⟨ret_bool (by simp [h0]), rfl⟩
 · go_enter Tryd.func31, Tryd.ntmps31
   go_wp2_with fail
   refine (unhide HC).mono ?_
   rintro e w1 ⟨rfl, rfl⟩
   go_wp2
   go_ret
   exact ⟨ret_bool (by simp [show ¬ 0 ≤ r by omega]), rfl⟩
theorem any_notBig {xs : List Int} (h : colorsOk xs = true) : xs.any notBig = false := by
 rw [List.any_eq_false]
 intro x hx
 obtain ⟨i, hi, rfl⟩ := List.getElem_of_mem hx
 obtain ⟨n, hn, h64⟩ := color_in h hi
 rw [← nth_lt hi, hn]
 simp [notBig, inB]
 omega
def strV (b : List UInt8) : Value := .string ⟨b.toArray⟩
theorem join_of {w : World} {B g c : Nat} {L : List (List UInt8)} (hown : w.ownsRow B 9 1 (.slice (some ⟨g, 0, none⟩) L.length c) L.length (L.map strV)) (hl : (Lib.join L [44]).length ≤ 100000) (hn : L.length ≤ 100000) :
    Calls Tryd.prog 18 #[.slice (some ⟨g, 0, none⟩) L.length c, .string ⟨#[44]⟩] w fun e w' => e = .returned (.string ⟨(Lib.join L [44]).toArray⟩) ∧ Below w.heap.size w w' := by
 have hm : (L.map fun b => (⟨b.toArray⟩ : ByteArray)).map (·.data.toList) = L := by
  rw [List.map_map]
  exact (List.map_congr_left fun x _ => by simp).trans (List.map_id L)
 have hc : L.length ≤ c := by
  rcases hown.2 with ⟨e, _⟩ | ⟨g', cap, cur, e, _, _, h1, _⟩
  · cases e
  · injection e with e1 e2 e3; omega
 have h := strings_Join g 0 c (L.map fun b => (⟨b.toArray⟩ : ByteArray)) ⟨#[44]⟩ w (fun j x hx => by
  have h1 := hown.cells (g := g) rfl j (.string x) (by
   rw [List.getElem?_map] at hx ⊢
   cases hj : L[j]? with
   | none => rw [hj] at hx; cases hx
   | some y => rw [hj] at hx; injection hx with hx; rw [← hx]; rfl)
  rw [Addr.add_lit] at h1
  exact h1) (hown.lt g rfl).2 (by rw [List.length_map]; omega) (by rw [List.length_map]; exact hc) (by rw [hm]; exact Nat.le_trans hl (by omega))
 rw [List.length_map, hm] at h
 exact h
theorem implLT_any (a : Option Addr) (c : Nat) (xs : List Int) (w : World) (hx : Rd w a xs) (hc : colorsOk xs = true) :
    Calls Tryd.prog 17 #[.slice a xs.length c] w fun e w' => e = .returned (.string ⟨(textL xs).toArray⟩) ∧ Below w.heap.size w w' := by
 obtain ⟨i0, hi0, hz0, hz1, hz2⟩ := info_parts Tryd.infoStr
 have hl : xs.length ≤ 64 := by unfold colorsOk at hc; rw [Bool.and_eq_true, decide_eq_true_eq] at hc; exact hc.1
 have HX := hide hx
 have HC := Lib.hid hc
 have HLP := Lib.hid (lp_len xs)
 have hcf := has_notBig a c xs w hx
 rw [any_notBig hc] at hcf
 have HCF := hide hcf
 by_cases h0 : xs.length = 0
 · have hxs : xs = [] := List.eq_nil_of_length_eq_zero h0
   clear HX HC HLP hx hc hcf
   rw [h0] at HCF ⊢
   subst hxs
   go_enter Tryd.func17, Tryd.ntmps17
   go_wp2_with fail
   refine (unhide HCF).mono ?_
   rintro e w1 ⟨rfl, rfl⟩
   go_wp2
   go_ret
   exact ⟨rfl, Below.refl _ _⟩
 · have h1 : 0 < xs.length := by omega
   have q0 : ((xs.length : Int) == 0) = false := by rw [beq_eq_false_iff_ne]; omega
   clear hx hc h0 hcf
   go_enter Tryd.func17, Tryd.ntmps17
   go_wp2_with fail
   refine (unhide HCF).mono ?_
   rintro e w1 ⟨rfl, rfl⟩
   clear HCF
   go_wp2_with fail
   go_loopw [3, 5, 18] (fun sv xv iv wr => ∃ i : Nat, iv = .int .i64 i ∧ i ≤ xs.length ∧ Hid (wr.ownsRow w.heap.size 9 1 sv i (((lp xs).take i).map strV)) ∧ Below w.heap.size w wr) (fun _ _ iv _ => xs.length - (intOf iv).toNat)
   case atStart => exact ⟨0, rfl, Nat.zero_le _, World.ownsRow_nil _ _ _ _, Below.refl _ _⟩
   case round =>
    obtain ⟨i, rfl, hi, ho, hb⟩ := hrel
    rename World => wo
    have hbz := hb.size
    by_cases hil : i < xs.length
    · obtain ⟨b, o, rfl, hbb, hcc⟩ := (unhide HX).at_ h1
      obtain ⟨n, hn, hn64⟩ := color_in HC.out hil
      have cx := (hb.cell (p := ⟨b, o + i, none⟩) hbb).trans (hcc i hil)
      rw [hn] at cx
      have hp := (lp_nth hil).trans (by rw [hn, Int.toNat_natCast])
      have hts := take_snoc (L := lp xs) (i := i) (by rw [HLP.out]; exact hil)
      rw [hp] at hts
      have HD := hide (implDec_any n (by omega) wo)
      obtain ⟨D, hD⟩ : ∃ D, D = Lib.decDigits n := ⟨_, rfl⟩
      rw [← hD] at HD hts
      have hm : ((lp xs).take i).map strV ++ [Value.string ⟨D.toArray⟩] = ((lp xs).take (i + 1)).map strV := by rw [hts, List.map_append]; rfl
      have HM := Lib.hid hm
      clear hcc hp hts hm hn hD
      go_wp2_with fail
      refine (unhide HD).mono ?_
      rintro e w1 ⟨rfl, rfl⟩
      have kx : (wo.alloc (.cells #[.string ⟨D.toArray⟩] 9)).cell? ⟨wo.heap.size, 0, none⟩ = some (.string ⟨D.toArray⟩) := (Blk.new wo 9 #[.string ⟨D.toArray⟩] rfl).cell 0
      go_wp2_with (at_builtin; refine wpList_append_own_at _ rfl (.tmp 22) (.tmp 25) 39 rfl w.heap.size 9 i0 (.string ⟨#[]⟩) 1 16 Tryd.underlying39 hi0 hz0 hz1 hz2 rfl (by omega) _ i _ rfl (ho.out.alloc _) ⟨wo.heap.size, 0, none⟩ 1 1 [.string ⟨D.toArray⟩] rfl rfl (by intro j u' hj; match j, hj with | 0, hj => simp at hj; subst hj; exact kx) (by intro u' hu'; simp at hu'; subst hu'; rfl) (by unfold maxLen; omega) (by omega) (by simp; omega) ?_; intro v5 w5 o5 g5 n5 _)
      rw [HM.out] at o5
      have hlt := fun q hq => (ho.out.alloc (.cells #[.string ⟨D.toArray⟩] 9)).lt q hq
      have b5 : Below w.heap.size wo w5 := Below.grown ((Below.refl _ _).alloc hbz _) g5 (by simp; omega) (fun q hq => (hlt q hq).1)
      have O5 := hide o5
      clear o5 g5 n5 hlt
      go_roundw
      case rel => exact ⟨i + 1, by go_num, by omega, O5.out, hb.trans b5⟩
      case measure => simp only [intOf]; omega
    · obtain rfl : i = xs.length := by omega
      have ho2 := ho.out
      rw [← HLP.out, List.take_length] at ho2
      obtain ⟨g, c5, rfl⟩ : ∃ g c5, u3 = .slice (some ⟨g, 0, none⟩) (lp xs).length c5 := by
       rcases ho2.2 with ⟨e, h0⟩ | ⟨g', cap, cur, e, _⟩
       · have := HLP.out; omega
       · exact ⟨g', cap, e⟩
      have hj := join_of ho2 (by
       have h2 := tx_len (lp_small HC.out) (lp xs).length (Nat.le_refl _)
       rw [tx_all] at h2
       have := HLP.out; omega) (by have := HLP.out; omega)
      have hne : xs ≠ [] := by intro e; rw [e] at h1; simp at h1
      rw [show Lib.join (lp xs) [44] = textL xs by rw [textL, if_neg hne]] at hj
      have HJ := hide hj
      clear hj ho ho2 hne
      go_wp2_with fail
      refine (unhide HJ).mono ?_
      rintro e w2 ⟨rfl, b2⟩
      have hbb := hb.trans (b2.mono hbz)
      go_wp2
      go_ret
      exact ⟨rfl, hbb⟩
end Go.Proofs.YtgfcbmflnldicaaDoor
