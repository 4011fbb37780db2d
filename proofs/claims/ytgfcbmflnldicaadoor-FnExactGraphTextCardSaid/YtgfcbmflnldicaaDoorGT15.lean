/-
  Texts joined.
-/
import Derived.Test.YtgfcbmflnldicaaDoorGT13
import Derived.Test.YtgfcbmflnldicaaDoorGT14
set_option linter.unusedVariables false
set_option linter.unusedSimpArgs false
set_option maxRecDepth 100000
set_option maxHeartbeats 40000000
namespace Go.Proofs.YtgfcbmflnldicaaDoor
open Go.RowKit
attribute [local go_sem ↓] Go.wp_at_zero Go.wp_at_succ
def edV (u v : Nat) : Value := .string (((⟨(Lib.decDigits u).toArray⟩ : ByteArray) ++ ⟨#[45]⟩) ++ ⟨(Lib.decDigits v).toArray⟩)
theorem step_append_str {w : World} {ops : Array Oper} {o : Oper} {a : Act} {K : Act → World → Prop} {Q : Exit → Act → World → Prop} {E : Prop} (hgd : o.guard = none) (s x : Operand)
    (ho : o.op = .call { callee := .builtin .append, args := #[s, x], argTypes := #[39, 39] }) {B n : Nat} {v : Value} {xs : List Value} (hs : a.eval s = v) (hown : w.ownsRow B 9 1 v n xs)
    (g1 : Nat) {u : Value} (hx : a.eval x = .slice (some ⟨g1, 0, none⟩) 1 1) (hc : w.cell? ⟨g1, 0, none⟩ = some u) (hu : u.oneCell' = true) (hn : n ≤ 100000) (hB : B ≤ w.heap.size)
    (h : ∀ v' w', w'.ownsRow B 9 1 v' (n + 1) (xs ++ [u]) → w.grownBy w' v.ownBlock → K (a.put o.dst v') w') :
    if Region.wanted o (yielded ops a.tmps) = true then Oper.wp Tryd.prog o a w K Q else E := by
 have hw : Region.wanted o (yielded ops a.tmps) = true := by simp [Region.wanted, hgd]
 rw [if_pos hw]
 obtain ⟨i0, hi0, hz0, hz1, hz2⟩ := info_parts Tryd.infoStr
 obtain ⟨v', w', hr, h2, h3, h4, h5⟩ := run_append_own_at (P := Tryd.prog) w B 39 o.type 9 i0 (.string ⟨#[]⟩) 1 16 Tryd.underlying39 hi0 hz0 hz1 hz2 rfl (by omega) v n xs hown ⟨g1, 0, none⟩ 1 1 [u] rfl (by intro j u' hj; match j, hj with | 0, hj => simp at hj; subst hj; exact hc) (by intro u' hu'; simp at hu'; subst hu'; exact hu) (by unfold maxLen; omega) (by omega) hB
 unfold Oper.wp execOp
 simp only [ho, resolve, invoke, builtin, Sem.run_bind, Sem.run_pure, Result.andThen_ok, List.map_toArray, List.map_cons, List.map_nil, hs, hx, hr]
 exact h _ _ h2 h3
theorem implGT_any (a : Option Addr) (c : Nat) (xs : List Int) (ra : Option Addr) (rc : Nat) (es : List (Int × Int)) (w : World) (hx : Rd w a xs) (hes : RdE w ra es) :
    Calls Tryd.prog 7 #[.agg #[.slice a xs.length c, .slice ra es.length rc]] w fun e w' => e = .returned (.string ⟨(gtRes xs es).toArray⟩) ∧ Below w.heap.size w w' := by
 obtain ⟨W0, hW0⟩ : ∃ W0, W0 = w.alloc (.cells #[.slice a xs.length c, .slice ra es.length rc] 30) := ⟨_, rfl⟩
 have b0 : Below w.heap.size w W0 := by rw [hW0]; exact (Below.refl _ _).alloc (Nat.le_refl _) _
 have k0 : Blk W0 w.heap.size 30 #[.slice a xs.length c, .slice ra es.length rc] := by rw [hW0]; exact Blk.new _ _ _ rfl
 have z0 := k0.lt
 have HV := hide (implVG_any a c xs ra rc es W0 (hx.below b0) (hes.below b0))
 have HX := hide (hx.below b0)
 have HE := hide (hes.below b0)
 have f0 := k0.cell 0
 have f1 := k0.cell 1
 have BX := hide (show ∀ V, Below W0.heap.size W0 V → V.cell? ⟨w.heap.size, 0, none⟩ = some (.slice a xs.length c) ∧ V.cell? ⟨w.heap.size, 1, none⟩ = some (.slice ra es.length rc) from fun V h => ⟨(k0.below h z0).cell 0, (k0.below h z0).cell 1⟩)
 have HW := Lib.hid hW0
 clear hW0 hx hes k0
 rw [HW.out] at f0 f1
 go_enter Tryd.func7, Tryd.ntmps7
 go_wp2_with fail
 rw [← HW.out]
 refine (unhide HV).mono ?_
 rintro e w1 ⟨rfl, b1⟩
 clear f0 f1 HV
 cases hk : okG xs es with
 | false =>
  have HR := Lib.hid (show gtRes xs es = [] by rw [gtRes, hk]; rfl)
  go_wp2
  go_ret
  exact ⟨by rw [HR.out]; rfl, b0.trans (b1.mono b0.size)⟩
 | true =>
  have HR := Lib.hid (show gtRes xs es = textG xs es by rw [gtRes, hk]; rfl)
  have hG := okG_iff.1 hk
  have HG := hide hG
  have m512 := hG.m512
  have htl := textL_len hG.cols
  have hjl := tx_len (ep_small hG) (ep es).length (Nat.le_refl _)
  rw [tx_all, ep_len] at hjl
  have HEL := Lib.hid (ep_len es)
  have HLT := hide (fun V (h : Below W0.heap.size W0 V) => implLT_any a c xs V ((unhide HX).below h) (unhide HG).cols)
  obtain ⟨f0, f1⟩ := (unhide BX) w1 b1
  have hz1 := b1.size
  clear hk hG
  go_wp2_with fail
  go_loopw [3, 5, 12] (fun sv bv iv wr => ∃ i : Nat, iv = .int .i64 i ∧ i ≤ es.length ∧ Hid (wr.ownsRow w1.heap.size 9 1 sv i (((ep es).take i).map strV)) ∧ Below w1.heap.size w1 wr) (fun _ _ iv _ => es.length - (intOf iv).toNat)
  case atStart => exact ⟨0, rfl, Nat.zero_le _, World.ownsRow_nil _ _ _ _, Below.refl _ _⟩
  case round =>
   obtain ⟨i, rfl, hi, ho, hb⟩ := hrel
   rename World => wo
   have hbz := hb.size
   have db1 := b1.trans (hb.mono hz1)
   by_cases hil : i < es.length
   · skip
     obtain ⟨b, o, rfl, hbb, hcc⟩ := (unhide HE).at_ (by omega)
     obtain ⟨c1, c2⟩ := hcc i hil
     obtain ⟨u, v, huv, hu, hv⟩ := ep_in (unhide HG) hil
     rw [huv] at c1 c2
     have e1 := (db1.cell (p := ⟨b, o + i * 2, none⟩) hbb).trans c1
     have e2 := (db1.cell (p := ⟨b, o + i * 2 + 1, none⟩) hbb).trans c2
     have hp := ep_nth hil
     rw [huv] at hp
     simp only [Int.toNat_natCast] at hp
     have hts := take_snoc (L := ep es) (i := i) (by rw [HEL.out]; exact hil)
     rw [hp] at hts
     have hm : ((ep es).take i).map strV ++ [edV u v] = ((ep es).take (i + 1)).map strV := by
      rw [hts, List.map_append, edV, ba_app1, ba_app]
      rfl
     have HM := Lib.hid hm
     have l1 := dec_len (n := u) (by omega)
     have l2 := dec_len (n := v) (by omega)
     have y1 : ¬ 9223372036854775807 < (Lib.decDigits u).length + 1 := by omega
     have y2 : ¬ 9223372036854775807 < (Lib.decDigits u).length + 1 + (Lib.decDigits v).length := by omega
     obtain ⟨W6, hW6⟩ : ∃ z, z = wo.alloc (.cells #[.int .i64 u, .int .i64 v] 41) := ⟨_, rfl⟩
     have b6 : Below wo.heap.size wo W6 := by rw [hW6]; exact (Below.refl _ _).alloc (Nat.le_refl _) _
     have k6 : Blk W6 wo.heap.size 41 #[.int .i64 u, .int .i64 v] := by rw [hW6]; exact Blk.new _ _ _ rfl
     have z6 := k6.lt
     have d6 : Below wo.heap.size wo W6.drew := b6.trans ((show Below W6.heap.size W6 W6.drew from Below.drewn 1).mono (by omega))
     have kd : Below W6.heap.size W6 W6.drew := Below.drewn 1
     have ho6 := ownsRow_below ho.out b6 (Nat.le_refl _)
     have hzo : wo.heap.size < W6.drew.heap.size := z6
     have K6 := hide (show Blk W6.drew wo.heap.size _ _ from k6.below kd z6)
     have BR := hide (show ∀ V, Below W6.drew.heap.size W6.drew V → (Below wo.heap.size wo V ∧ V.cell? ⟨wo.heap.size, 0, none⟩ = some (.int .i64 u) ∧ V.cell? ⟨wo.heap.size, 1, none⟩ = some (.int .i64 v)) from fun V h => ⟨d6.trans (h.mono d6.size), ((unhide K6).below h hzo).cell 0, ((unhide K6).below h hzo).cell 1⟩)
     have hW6x := Lib.hid hW6
     clear hW6 k6 hts hm hp c1 c2 huv hcc
     go_upto_region 7 with fail
     rw [← hW6x.out]
     refine wp_region_noPanic ?_
     refine wp_region_until (S := (fun W => Below wo.heap.size wo W ∧ W.cell? ⟨wo.heap.size, 0, none⟩ = some (.int .i64 u) ∧ W.cell? ⟨wo.heap.size, 1, none⟩ = some (.int .i64 v))) 10 [(0, 0), (0, 1), (0, 2), (0, 5), (0, 6), (1, 3), (0, 4), (1, 7), (0, 8), (1, 9), (2, 10), (2, 11)] (by kernel_rfl) (by kernel_rfl) (by kernel_rfl) rfl (fun _ _ _ _ _ h => h) ?_ (fun hHeld => ?_)
     · exact (unhide BR) _ (Below.refl _ _)
     refine SeqU.take (by rfl) (v := ?hv1) (by rfl) ?hy1 ?hr1
     case hy1 =>
      intro w hSw
      try dsimp only at hSw
      go_simp
      try (with_reducible rfl)
     try simp only [Act.put, List.setIfInBounds_toArray, List.set_cons_zero, List.set_cons_succ]
     refine SeqU.take (by rfl) (v := ?hv2) (by rfl) ?hy2 ?hr2
     case hy2 =>
      intro w hSw
      try dsimp only at hSw
      go_simp
      try (with_reducible rfl)
     try simp only [Act.put, List.setIfInBounds_toArray, List.set_cons_zero, List.set_cons_succ]
     refine SeqU.take (by rfl) (v := ?hv3) (by rfl) ?hy3 ?hr3
     case hy3 =>
      intro w hSw
      try dsimp only at hSw
      go_simp
      try (with_reducible rfl)
     try simp only [Act.put, List.setIfInBounds_toArray, List.set_cons_zero, List.set_cons_succ]
     refine SeqU.take (by rfl) (v := ?hv4) (by rfl) ?hy4 ?hr4
     case hy4 =>
      intro w hSw
      try dsimp only at hSw
      go_simp
      try (with_reducible rfl)
     try simp only [Act.put, List.setIfInBounds_toArray, List.set_cons_zero, List.set_cons_succ]
     refine SeqU.take (by rfl) (v := ?hv5) (by rfl) ?hy5 ?hr5
     case hy5 =>
      intro w hSw
      try dsimp only at hSw
      go_simp
      try (with_reducible rfl)
     try simp only [Act.put, List.setIfInBounds_toArray, List.set_cons_zero, List.set_cons_succ]
     refine SeqU.call (by rfl) (fun K hK => ?_)
     go_simp
     refine (implDec_any u (by omega) _).mono ?_
     rintro e w1 ⟨rfl, rfl⟩
     refine hK.out _ _ ?_ (fun hHeld => ?_)
     · exact (unhide BR) _ (Below.refl _ _)
     clear hK K
     try simp only [Act.put, List.setIfInBounds_toArray, List.set_cons_zero, List.set_cons_succ]
     refine SeqU.take (by rfl) (v := ?hv6) (by rfl) ?hy6 ?hr6
     case hy6 =>
      intro w hSw
      try dsimp only at hSw
      go_simp
      try (with_reducible rfl)
     try simp only [Act.put, List.setIfInBounds_toArray, List.set_cons_zero, List.set_cons_succ]
     refine SeqU.call (by rfl) (fun K hK => ?_)
     go_simp
     refine (implDec_any v (by omega) _).mono ?_
     rintro e w1 ⟨rfl, rfl⟩
     refine hK.out _ _ ?_ (fun hHeld => ?_)
     · exact (unhide BR) _ (Below.refl _ _)
     clear hK K
     try simp only [Act.put, List.setIfInBounds_toArray, List.set_cons_zero, List.set_cons_succ]
     refine SeqU.take (by rfl) (v := ?hv7) (by rfl) ?hy7 ?hr7
     case hy7 =>
      intro w hSw
      try dsimp only at hSw
      go_simp
      try (with_reducible rfl)
     try simp only [Act.put, List.setIfInBounds_toArray, List.set_cons_zero, List.set_cons_succ]
     refine SeqU.call (by rfl) (fun K hK => ?_)
     go_simp
     skip
     refine hK.out _ _ ?_ (fun hHeld => ?_)
     · exact (unhide BR) _ ((Below.refl _ _).alloc (Nat.le_refl _) _)
     clear hK K
     try simp only [Act.put, List.setIfInBounds_toArray, List.set_cons_zero, List.set_cons_succ]
     refine SeqU.last (by rfl) (fun K hK => ?_)
     refine step_append_str (w := (W6.alloc (.cells #[(edV u v)] 9)).drew) (u := (edV u v)) rfl (.tmp 16) (.tmp 25) rfl rfl (ownsRow_below (ho6.alloc (.cells #[(edV u v)] 9)) (Below.refl _ _).drew (Nat.le_refl _)) W6.heap.size rfl (show (W6.alloc (.cells #[(edV u v)] 9)).drew.cell? ⟨W6.heap.size, 0, none⟩ = some (edV u v) from (Blk.new W6 9 #[(edV u v)] rfl).cell 0) rfl (by omega) (by have h9 := b6.size; show w1.heap.size ≤ (W6.alloc (.cells #[(edV u v)] 9)).heap.size; simp; omega) ?_
     intro v5 w5 o5 g5
     refine hK.out _ _ ?_
     clear hK K
     try simp only [Act.put, List.setIfInBounds_toArray, List.set_cons_zero, List.set_cons_succ]
     refine SeqU.last (by rfl) (fun K hK => ?_)
     go_simp
     skip
     refine hK.out _ _ ?_
     clear hK K
     try simp only [Act.put, List.setIfInBounds_toArray, List.set_cons_zero, List.set_cons_succ]
     refine SeqU.done (NoPanic.normal ?_)
     rw [HM.out] at o5
     have hlt := fun q hq => (ho6.alloc (.cells #[edV u v] 9)).lt q hq
     have b5 : Below w1.heap.size wo w5 := Below.grown (((b6.mono hbz).alloc (by have := b6.size; omega) _).drew) g5 (by have h9 := b6.size; show w1.heap.size ≤ (W6.alloc (.cells #[(edV u v)] 9)).heap.size; simp; omega) (fun q hq => (hlt q hq).1)
     have O5 := hide o5
     clear o5 g5 hlt ho6
     go_wp2_with fail
     go_roundw
     case rel => exact ⟨i + 1, by go_num, by omega, O5.out, hb.trans b5⟩
     case measure => simp only [intOf]; omega
   · obtain rfl : i = es.length := by omega
     obtain ⟨f0, f1⟩ := (unhide BX) wo db1
     have HLW := hide ((unhide HLT) wo db1)
     have ho2 := ho.out
     rw [← HEL.out, List.take_length] at ho2
     have hzb := b0.trans (db1.mono b0.size)
     obtain ⟨TL, hTL⟩ : ∃ T, T = textL xs := ⟨_, rfl⟩
     obtain ⟨TJ, hTJ⟩ : ∃ T, T = Lib.join (ep es) [44] := ⟨_, rfl⟩
     rw [← hTL] at HLW htl
     rw [← hTJ] at hjl
     have y1 : ¬ 9223372036854775807 < TL.length + 1 := by omega
     have y2 : ¬ 9223372036854775807 < TL.length + 1 + TJ.length := by omega
     have hE : ((⟨TL.toArray⟩ : ByteArray) ++ ⟨#[59]⟩) ++ ⟨TJ.toArray⟩ = ⟨(gtRes xs es).toArray⟩ := by
      rw [ba_app1, ba_app, HR.out, textG, hTL, hTJ]
     have HEE := Lib.hid hE
     have HTJ := Lib.hid hTJ
     by_cases hz : es.length = 0
     · have hep : ep es = [] := List.eq_nil_of_length_eq_zero (by rw [HEL.out]; exact hz)
       have hu3 : u3 = .slice none 0 0 ∨ ∃ g c5, u3 = .slice (some ⟨g, 0, none⟩) 0 c5 := by
        rcases ho2.2 with ⟨e, _⟩ | ⟨g', cap, cur, e, _⟩
        · exact .inl e
        · exact .inr ⟨g', cap, by rw [e, HEL.out, hz]⟩
       have hTJ0 : TJ = [] := by rw [hTJ, hep]; rfl
       clear ho ho2 hE hTL hTJ hz
       have hj0 := fun (A : Option Addr) (C : Nat) V => strings_Join_none A C ⟨#[44]⟩ V
       have HJ0 := hide hj0
       have hE2 : (⟨TL.toArray⟩ : ByteArray) ++ ⟨#[59]⟩ ++ ⟨#[]⟩ = ⟨(gtRes xs es).toArray⟩ := by rw [← HEE.out, hTJ0]
       have HE2 := Lib.hid hE2
       clear hj0 hE2 hTJ0 hep
       rcases hu3 with rfl | ⟨g, c5, rfl⟩
       · go_wp2_with fail
         refine (unhide HLW).mono ?_
         rintro e w2 ⟨rfl, b2⟩
         have hbb := hzb.trans (b2.mono hzb.size)
         go_wp2_with fail
         refine (unhide HJ0 _ _ _).mono ?_
         rintro e w3 ⟨rfl, rfl⟩
         go_wp2
         go_ret
         exact ⟨by rw [← HE2.out]; rfl, hbb⟩
       · go_wp2_with fail
         refine (unhide HLW).mono ?_
         rintro e w2 ⟨rfl, b2⟩
         have hbb := hzb.trans (b2.mono hzb.size)
         go_wp2_with fail
         refine (unhide HJ0 _ _ _).mono ?_
         rintro e w3 ⟨rfl, rfl⟩
         go_wp2
         go_ret
         exact ⟨by rw [← HE2.out]; rfl, hbb⟩
     · obtain ⟨g, c5, rfl⟩ : ∃ g c5, u3 = .slice (some ⟨g, 0, none⟩) (ep es).length c5 := by
         rcases ho2.2 with ⟨e, h0⟩ | ⟨g', cap, cur, e, _⟩
         · have := HEL.out; omega
         · exact ⟨g', cap, e⟩
       have OO := hide ho2
       clear ho ho2 hE hTL hTJ hz
       go_wp2_with fail
       refine (unhide HLW).mono ?_
       rintro e w2 ⟨rfl, b2⟩
       have hj := join_of (ownsRow_below (unhide OO) b2 (Nat.le_refl _)) (by rw [← HTJ.out]; omega) (by have := HEL.out; omega)
       rw [← HTJ.out] at hj
       have HJ := hide hj
       clear hj
       go_wp2_with fail
       refine (unhide HJ).mono ?_
       rintro e w3 ⟨rfl, b3⟩
       have hbb := hzb.trans ((b2.trans (b3.mono b2.size)).mono hzb.size)
       go_wp2
       go_ret
       exact ⟨by rw [← HEE.out]; rfl, hbb⟩
end Go.Proofs.YtgfcbmflnldicaaDoor
