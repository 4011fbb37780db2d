/-
  Texts joined.
-/
import Derived.Test.YtkiljcbejmiioaaGreatLK1
import Derived.Test.YtkiljcbejmiioaaGreatLK5
import Derived.Test.YtkiljcbejmiioaaGreatLK20
import Derived.Test.YtkiljcbejmiioaaGreatLK32
set_option linter.unusedVariables false
set_option linter.unusedSimpArgs false
set_option maxRecDepth 100000
set_option maxHeartbeats 40000000
namespace Go.Proofs.YtkiljcbejmiioaaGreat
open Go.RowKit
attribute [local go_sem ↓] Go.wp_at_zero Go.wp_at_succ
theorem Own.apart_rowS {w : World} {B B' n : Nat} {v u : Value} {vs : List Value} {xs : List Int} (h : w.ownsRow B 28 1 v n vs) (o : Own w B' u xs) : u.ownBlock = none ∨ u.ownBlock ≠ v.ownBlock := by
 cases e : u.ownBlock with
 | none => exact .inl rfl
 | some b => exact .inr fun e2 => Own.notSliceBlock h o b e e2.symm
def SortD (w : World) (L : List (List Int)) (e : Ending) (w' : World) : Prop := ∃ v M, e = .returned v ∧ v ≠ .slice none 0 0 ∧ M.length = L.length ∧ (∀ x ∈ M, x ∈ L) ∧ OwnS w' w.heap.size v M ∧ Below w.heap.size w w'
theorem l10SortG_any (ra : Option Addr) (rc : Nat) (L : List (List Int)) (w : World) (hL : RdS w ra L) (hl : L.length ≤ 4096) :
    Calls Tryz.prog 57 #[.slice ra L.length rc] w (SortD w L) := by
 have HL := hide hL
 clear hL
 go_enter Tryz.func57, Tryz.ntmps57
 go_wp2_with fail
 go_loopw [3, 4] (fun v iv wr => ∃ (i : Nat) (M : List (List Int)), iv = .int .i64 i ∧ i ≤ L.length ∧ M.length = i ∧ v ≠ .slice none 0 0 ∧ Hid (∀ x ∈ M, x ∈ L) ∧ Hid (OwnS wr w.heap.size v M) ∧ Below w.heap.size w wr) (fun _ iv _ => L.length - (intOf iv).toNat)
 case atStart => exact ⟨0, [], rfl, Nat.zero_le _, rfl, by simp, by show ∀ x ∈ ([] : List (List Int)), _; simp, OwnS.empty w (Nat.le_refl _), (Below.refl _ _).alloc (Nat.le_refl _) _⟩
 case round =>
  obtain ⟨i, M, rfl, hi, hMl, hnn, hin, ho, hb⟩ := hrel
  have hsz := hb.size
  rename World => wo
  by_cases hil : i < L.length
  · obtain ⟨hs, hm, hV, hown, hapt⟩ := ho.out.hdrs (by omega)
    have hhl : hs.length = i := by rw [← hMl, ← hm, List.length_map]
    obtain ⟨gv, cv, rfl, hgv⟩ : ∃ gv cv, u3 = .slice (some ⟨gv, 0, none⟩) i cv ∧ gv < wo.heap.size := by
     rcases hV.form with ⟨e, _⟩ | ⟨g', c', e, _, h⟩
     · exact absurd e hnn
     · exact ⟨g', c', by rw [e, hhl], h⟩
    have hic : i ≤ cv ∧ cv ≤ 9223372036854775807 := by
     rcases hV.2.1.2 with ⟨e, _⟩ | ⟨g', cap', cur, e, _, _, h5, h6, _⟩
     · cases e
     · injection e with _ _ e
       unfold maxLen at h6
       omega
    obtain ⟨hic, hic2⟩ := hic
    have HCE := hide (show ∀ W, Below wo.heap.size wo W → ∀ j, j < i → W.cell? ⟨gv, j, none⟩ = some (hdAt hs j).val from fun W h j hj => (h.cell (p := ⟨gv, j, none⟩) hgv).trans (hV.cell (by omega)))
    have HRD := hide (fun j => (hV.rd j).1)
    have HM := Lib.hid hm
    have HOWN := hide hown
    have HAPT := hide hapt
    have HHL := Lib.hid hhl
    obtain ⟨lb, lo, rfl, hlb, hcc⟩ := (unhide HL).at_ (by omega)
    obtain ⟨la, lc, hlc, hlr⟩ := hcc i hil
    clear ho hm hV hown hapt hcc hnn
    go_wp2_with fail
    go_loopw [5] (fun kv wr => ∃ k : Nat, kv = .int .i64 k ∧ k ≤ i ∧ Qt wo wr) (fun kv _ => (intOf kv).toNat)
    case atStart => exact ⟨i, rfl, Nat.le_refl _, Qt.refl _⟩
    case round =>
     obtain ⟨k, rfl, hki, hq⟩ := hrel
     rename World => wq
     have hbq := hq.below wo.heap.size
     by_cases h0 : k = 0
     · have hz : ¬ (0 : Int) < (k : Int) := by omega
       have hz2 : ¬ 0 < k := by omega
       clear h0
       go_upto_region 6 with fail
       go_quiet (fail)
       rename Nat => nq
       obtain ⟨w1, hw1⟩ : ∃ z, z = wq.drewN nq := ⟨_, rfl⟩
       rw [← hw1]
       have q1 : Qt wo w1 := hq.trans ⟨nq, hw1⟩
       have b1 := q1.below wo.heap.size
       have z1 := b1.size
       clear hw1
       obtain ⟨w2, hw2⟩ : ∃ z, z = w1.alloc (.cells #[] 28) := ⟨_, rfl⟩
       have b2 : Below w1.heap.size w1 w2 := by rw [hw2]; exact (Below.refl _ _).alloc (Nat.le_refl _) _
       have hr2 : w2.ownsRow w1.heap.size 28 1 (.slice (some ⟨w1.heap.size, 0, none⟩) 0 0) 0 [] := by rw [hw2]; exact World.ownsRow_made w1 #[] 0 (Nat.le_refl _) (Nat.zero_le _) (by simp)
       have z2 := b2.size
       have b2' := b1.trans (b2.mono z1)
       have p1 : (k : Int) ≤ (cv : Int) := by omega
       have p2 : ¬ (i : Int) < (k : Int) := by omega
       have p3 : 0 ≤ (k : Int) := by omega
       have p4 : (k : Int) ≤ (i : Int) := by omega
       have htl : (hs.take k).length = k := by rw [List.length_take]; omega
       have hc2 : ∀ j, j < k → w2.cell? ⟨gv, 0 + j, none⟩ = some (hdAt (hs.take k) j).val := fun j hj => by rw [Nat.zero_add, unhide HCE w2 b2' j (by omega), hdAt_lt (by omega), hdAt_lt (by rw [List.length_take]; omega), List.getElem_take]
       have HW2 := Lib.hid hw2
       clear hw2
       go_upto_region 9 with (at_builtin; rw [← HW2.out]; refine wpList_append_hdrsG rfl (.tmp 33) (.tmp 36) rfl (v := .slice (some ⟨w1.heap.size, 0, none⟩) 0 0) (n := 0) (vs := []) (B := w1.heap.size) rfl hr2 (by simp) gv 0 k cv (hs.take k) rfl htl hc2 (by omega) z2 ?_; intro v3 w3 r3 n3 g3 _)
       have b3 : Below w1.heap.size w1 w3 := b2.grown g3 z2 (fun q hq => by simp [Value.ownBlock] at hq; omega)
       have hr3 : w3.ownsRow w1.heap.size 28 1 v3 k ((hs.take k).map Hdr.val) := by simpa using r3
       have z3 := b3.size
       have b3' := b1.trans (b3.mono z1)
       have HG3 := hide (fun q hq => (hr3.lt q hq).2)
       clear r3 g3 hr2 hc2 htl
       have gl3 := (hb.trans (b3'.mono hsz)).cell (p := ⟨lb, lo + i, none⟩) hlb |>.trans hlc
       have HOW := hide (l00Own_any la lc (nthL L i) w3 (hlr.below (hb.trans (b3'.mono hsz))))
       have hlen := hlr.len
       obtain ⟨x, hx⟩ : ∃ x, x = nthL L i := ⟨_, rfl⟩
       rw [← hx] at gl3 HOW hlen
       have HIN := hide (show ∀ y ∈ M.take k ++ x :: M.drop k, y ∈ L from fun y hy => by
        rcases List.mem_append.1 hy with h | h
        · exact hin.out y (List.mem_of_mem_take h)
        · rcases List.mem_cons.1 h with rfl | h
          · rw [hx]; exact nthL_mem hil
          · exact hin.out y (List.mem_of_mem_drop h))
       have HML := hide (show (M.take k ++ x :: M.drop k).length = i + 1 from by rw [List.length_append, List.length_cons, List.length_take, List.length_drop]; omega)
       clear hx
       go_wp2_with (first | (at_builtin; fail) | fail)
       refine (unhide HOW).mono ?_
       rintro e w4 ⟨v4, rfl, o4, b4⟩
       obtain ⟨a4, c4, rfl, _, _⟩ := o4.form
       have z4 := b4.size
       obtain ⟨w5, hw5⟩ : ∃ z, z = w4.alloc (.cells #[.slice a4 x.length c4] 28) := ⟨_, rfl⟩
       have b5 : Below w4.heap.size w4 w5 := by rw [hw5]; exact (Below.refl _ _).alloc (Nat.le_refl _) _
       have k5 : Blk w5 w4.heap.size 28 #[.slice a4 x.length c4] := by rw [hw5]; exact Blk.new _ _ _ rfl
       have b35 : Below w3.heap.size w3 w5 := b4.trans (b5.mono z4)
       have z5 := b35.size
       have hr5 := ownsRow_below hr3 b35 (Nat.le_refl _)
       obtain ⟨hd, hhd⟩ : ∃ hd : Hdr, hd = ⟨a4, c4, x⟩ := ⟨_, rfl⟩
       have hc5 : ∀ j, j < 1 → w5.cell? ⟨w4.heap.size, 0 + j, none⟩ = some (hdAt [hd] j).val := fun j hj => by
        obtain rfl : j = 0 := by omega
        rw [hhd]
        exact k5.cell 0
       have HW5 := Lib.hid hw5
       have HHD := Lib.hid hhd
       have O4 := hide o4
       clear hw5 hhd o4 hr3 k5
       go_upto_region 10 with (at_builtin; rw [← HW5.out]; refine wpList_append_hdrsG rfl (.tmp 38) (.tmp 44) rfl (v := v3) (n := k) (vs := (hs.take k).map Hdr.val) (B := w1.heap.size) rfl hr5 n3 w4.heap.size 0 1 1 [hd] rfl rfl hc5 (by omega) (by omega) ?_; intro v6 w6 r6 n6 g6 _)
       have hg3 : ∀ q, v3.ownBlock = some q → w1.heap.size ≤ q ∧ q < w3.heap.size := fun q hq => ⟨(hr5.lt q hq).1, unhide HG3 q hq⟩
       have b6 : Below w1.heap.size w1 w6 := (b3.trans (b35.mono z3)).grown g6 (by omega) (fun q hq => (hg3 q hq).1)
       have z6 := b6.size
       have b6' := b1.trans (b6.mono z1)
       have o6 : Own w6 w3.heap.size (.slice a4 x.length c4) x := ((unhide O4).below b5 (Nat.le_refl _)).grow g6 (by
        cases e : Value.ownBlock (.slice a4 x.length c4) with
        | none => exact .inl rfl
        | some b =>
         refine .inr fun e2 => ?_
         have h1 := ((unhide O4).lt b e).1
         have h2 := (hg3 b e2.symm).2
         omega)
       have O6 := hide o6
       have R6 := hide r6
       clear g6 hr5 hc5 o6 r6
       have HDL := hide (show (hs.drop k).length = i - k by rw [List.length_drop]; omega)
       have HCD := hide (show ∀ j, j < i - k → w6.cell? ⟨gv, k + j, none⟩ = some (hdAt (hs.drop k) j).val from fun j hj => by
        rw [unhide HCE w6 b6' (k + j) (by omega), hdAt_lt (by omega), hdAt_lt (by rw [List.length_drop]; omega), List.getElem_drop])
       have hg6 : ∀ q, v6.ownBlock = some q → w1.heap.size ≤ q := fun q hq => ((unhide R6).lt q hq).1
       have HF7 := hide (show ∀ W v', W.ownsRow w1.heap.size 28 1 v' (k + 1 + (i - k)) (((hs.take k).map Hdr.val ++ [hd].map Hdr.val) ++ (hs.drop k).map Hdr.val) → w6.grownBy W v6.ownBlock → OwnS W w.heap.size v' (M.take k ++ x :: M.drop k) from fun W v' hr hg => by
        have e1 : (hs.take k ++ hd :: hs.drop k).map Hdr.xs = M.take k ++ x :: M.drop k := by
         rw [List.map_append, List.map_cons, List.map_take, List.map_drop, HM.out, HHD.out]
        have e2 : ((hs.take k).map Hdr.val ++ [hd].map Hdr.val) ++ (hs.drop k).map Hdr.val = (hs.take k ++ hd :: hs.drop k).map Hdr.val := by simp
        have el : (hs.take k ++ hd :: hs.drop k).length = k + 1 + (i - k) := by simp; omega
        have hperm : (hs.take k ++ hd :: hs.drop k).Perm (hd :: hs) := by
         have h1 := List.perm_middle (a := hd) (l₁ := hs.take k) (l₂ := hs.drop k)
         rwa [List.take_append_drop] at h1
        have hbb : Below wo.heap.size wo W := (b1.trans ((b6.grown hg z6 (fun q hq => hg6 q hq)).mono z1))
        rw [← e1]
        refine OwnS.of_hdrs (by omega) ?_ (fun k' hk' => ?_) ((hperm.pairwise_iff (fun a => Apt.symm a)).2 (List.pairwise_cons.2 ⟨fun k' hk' b hb1 hb2 => ?_, unhide HAPT⟩))
        · rw [el, ← e2]
          obtain ⟨h1, h2⟩ := hr
          refine ⟨h1, ?_⟩
          rcases h2 with h2 | ⟨g', cap, cur, e, hB', r⟩
          · exact .inl h2
          · exact .inr ⟨g', cap, cur, e, by omega, r⟩
        · rcases List.mem_cons.1 (hperm.mem_iff.1 hk') with rfl | hk'
          · rw [HHD.out]
            exact ((unhide O6).grow hg (Own.apart_rowS (unhide R6) (unhide O6))).mono (by omega)
          · exact (unhide HOWN k' hk').below hbb (Nat.le_refl _)
        · have h1 := ((unhide HOWN k' hk').lt b hb2).2
          rw [HHD.out] at hb1
          have h2 := ((unhide O6).lt b hb1).1
          omega)
       by_cases hcp : cv = k
       · skip
         have hcc : (cv = k) = True := eq_true hcp
         have hc0 : ∀ j, j < i - k → w6.cell? ⟨gv, 0 + j, none⟩ = some (hdAt (hs.drop k) j).val := fun j hj => by omega
         go_wp2_with (at_builtin; refine wpList_append_hdrsG rfl (.tmp 46) (.tmp 49) rfl (v := v6) (n := k + 1) (vs := (hs.take k).map Hdr.val ++ [hd].map Hdr.val) (B := w1.heap.size) rfl (unhide R6) n6 gv 0 (i - k) 0 (hs.drop k) rfl (unhide HDL) hc0 (by omega) (by omega) ?_; intro v7 w7 r7 n7 g7 _)
         have hnx := unhide HF7 w7 v7 r7 g7
         have b7 : Below w1.heap.size w1 w7 := b6.grown g7 z6 (fun q hq => hg6 q hq)
         have b7' := b1.trans (b7.mono z1)
         have HNX := hide hnx
         have N7 := hide n7
         have hbw := hb.trans (b7'.mono hsz)
         clear hnx r7 g7 n7
         go_roundw
         case rel => exact ⟨i + 1, _, by go_num, by omega, (unhide HML), unhide N7, unhide HIN, unhide HNX, hbw⟩
         case measure => simp only [intOf]; omega
       · skip
         have hne : (cv = k) = False := eq_false hcp
         go_wp2_with (at_builtin; refine wpList_append_hdrsG rfl (.tmp 46) (.tmp 49) rfl (v := v6) (n := k + 1) (vs := (hs.take k).map Hdr.val ++ [hd].map Hdr.val) (B := w1.heap.size) rfl (unhide R6) n6 gv k (i - k) (cv - k) (hs.drop k) rfl (unhide HDL) (unhide HCD) (by omega) (by omega) ?_; intro v7 w7 r7 n7 g7 _)
         have hnx := unhide HF7 w7 v7 r7 g7
         have b7 : Below w1.heap.size w1 w7 := b6.grown g7 z6 (fun q hq => hg6 q hq)
         have b7' := b1.trans (b7.mono z1)
         have HNX := hide hnx
         have N7 := hide n7
         have hbw := hb.trans (b7'.mono hsz)
         clear hnx r7 g7 n7
         go_roundw
         case rel => exact ⟨i + 1, _, by go_num, by omega, (unhide HML), unhide N7, unhide HIN, unhide HNX, hbw⟩
         case measure => simp only [intOf]; omega
     · obtain ⟨m1, rfl⟩ : ∃ m1, k = m1 + 1 := ⟨k - 1, by omega⟩
       have g0 := unhide HCE wq hbq m1 (by omega)
       have gl := ((hb.trans (hbq.mono hsz)).cell (p := ⟨lb, lo + i, none⟩) hlb).trans hlc
       have hcs := fun n => compareS_any (hdAt hs m1).a la (hdAt hs m1).c lc (hdAt hs m1).xs (nthL L i) (wq.drewN n) (((unhide HRD m1).below hbq).drewN n) ((hlr.below (hb.trans (hbq.mono hsz))).drewN n)
       obtain ⟨z, hz⟩ : ∃ z, z = cmpL (hdAt hs m1).xs (nthL L i) := ⟨_, rfl⟩
       rw [← hz] at hcs
       have hrl := (unhide HRD m1).len
       have hrl2 := hlr.len
       obtain ⟨hk, hhk⟩ : ∃ hk, hk = hdAt hs m1 := ⟨_, rfl⟩
       obtain ⟨row, hrow⟩ : ∃ row, row = nthL L i := ⟨_, rfl⟩
       rw [← hhk] at g0 hcs hrl
       rw [← hrow] at gl hcs hrl2
       have g0 : wq.cell? ⟨gv, m1, none⟩ = some (.slice hk.a hk.xs.length hk.c) := g0
       have HCS := hide hcs
       have hw4 : IntKind.i64.wrap (m1 : Int) = (m1 : Int) := IntWalk.i64_in _ (by omega)
       have i0 : 0 ≤ (m1 : Int) + 1 := by omega
       have i1 : (i : Int) < (L.length : Int) := by omega
       have i2 : (m1 : Int) < (m1 : Int) + 1 := by omega
       have i3 : (0 : Int) < (m1 : Int) + 1 := by omega
       have i4 : i < L.length := by omega
       have i5 : m1 < m1 + 1 := by omega
       have i7 : m1 < i := by omega
       have i8 : (m1 : Int) < (i : Int) := by omega
       clear hcs hz hhk hrow h0
       by_cases hz0 : 0 < z
       · have hz1 : (0 : Int) < z := hz0
         go_upto_region 6 with fail
         go_quiet ((go_at_call 13; exact Calls.quiet_of (unhide HCS _)))
         rename Nat => nq
         clear g0 gl HCS hrl hrl2
         go_wp2
         go_roundw
         case rel => exact ⟨m1, by first | rfl | go_num, by omega, hq.trans ⟨nq, rfl⟩⟩
         case measure => simp only [intOf]; omega
       · have i6 : ¬ 0 < z := hz0
         go_upto_region 6 with fail
         go_quiet ((go_at_call 13; exact Calls.quiet_of (unhide HCS _)))
         clear g0 gl hw4 i0 i1 i2 i3 i4 i5 i6 i7 i8 HCS hz0 hrl hrl2
         rename Nat => nq
         obtain ⟨w1, hw1⟩ : ∃ z, z = wq.drewN nq := ⟨_, rfl⟩
         rw [← hw1]
         have q1 : Qt wo w1 := hq.trans ⟨nq, hw1⟩
         have b1 := q1.below wo.heap.size
         have z1 := b1.size
         clear hw1
         obtain ⟨w2, hw2⟩ : ∃ z, z = w1.alloc (.cells #[] 28) := ⟨_, rfl⟩
         have b2 : Below w1.heap.size w1 w2 := by rw [hw2]; exact (Below.refl _ _).alloc (Nat.le_refl _) _
         have hr2 : w2.ownsRow w1.heap.size 28 1 (.slice (some ⟨w1.heap.size, 0, none⟩) 0 0) 0 [] := by rw [hw2]; exact World.ownsRow_made w1 #[] 0 (Nat.le_refl _) (Nat.zero_le _) (by simp)
         have z2 := b2.size
         have b2' := b1.trans (b2.mono z1)
         have p1 : ((m1 + 1) : Int) ≤ (cv : Int) := by omega
         have p2 : ¬ (i : Int) < ((m1 + 1) : Int) := by omega
         have p3 : 0 ≤ ((m1 + 1) : Int) := by omega
         have p4 : ((m1 + 1) : Int) ≤ (i : Int) := by omega
         have htl : (hs.take (m1 + 1)).length = (m1 + 1) := by rw [List.length_take]; omega
         have hc2 : ∀ j, j < (m1 + 1) → w2.cell? ⟨gv, 0 + j, none⟩ = some (hdAt (hs.take (m1 + 1)) j).val := fun j hj => by rw [Nat.zero_add, unhide HCE w2 b2' j (by omega), hdAt_lt (by omega), hdAt_lt (by rw [List.length_take]; omega), List.getElem_take]
         have HW2 := Lib.hid hw2
         clear hw2
         go_upto_region 9 with (at_builtin; rw [← HW2.out]; refine wpList_append_hdrsG rfl (.tmp 33) (.tmp 36) rfl (v := .slice (some ⟨w1.heap.size, 0, none⟩) 0 0) (n := 0) (vs := []) (B := w1.heap.size) rfl hr2 (by simp) gv 0 (m1 + 1) cv (hs.take (m1 + 1)) rfl htl hc2 (by omega) z2 ?_; intro v3 w3 r3 n3 g3 _)
         have b3 : Below w1.heap.size w1 w3 := b2.grown g3 z2 (fun q hq => by simp [Value.ownBlock] at hq; omega)
         have hr3 : w3.ownsRow w1.heap.size 28 1 v3 (m1 + 1) ((hs.take (m1 + 1)).map Hdr.val) := by simpa using r3
         have z3 := b3.size
         have b3' := b1.trans (b3.mono z1)
         have HG3 := hide (fun q hq => (hr3.lt q hq).2)
         clear r3 g3 hr2 hc2 htl
         have gl3 := (hb.trans (b3'.mono hsz)).cell (p := ⟨lb, lo + i, none⟩) hlb |>.trans hlc
         have HOW := hide (l00Own_any la lc (nthL L i) w3 (hlr.below (hb.trans (b3'.mono hsz))))
         have hlen := hlr.len
         obtain ⟨x, hx⟩ : ∃ x, x = nthL L i := ⟨_, rfl⟩
         rw [← hx] at gl3 HOW hlen
         have HIN := hide (show ∀ y ∈ M.take (m1 + 1) ++ x :: M.drop (m1 + 1), y ∈ L from fun y hy => by
          rcases List.mem_append.1 hy with h | h
          · exact hin.out y (List.mem_of_mem_take h)
          · rcases List.mem_cons.1 h with rfl | h
            · rw [hx]; exact nthL_mem hil
            · exact hin.out y (List.mem_of_mem_drop h))
         have HML := hide (show (M.take (m1 + 1) ++ x :: M.drop (m1 + 1)).length = i + 1 from by rw [List.length_append, List.length_cons, List.length_take, List.length_drop]; omega)
         clear hx
         go_wp2_with (first | (at_builtin; fail) | fail)
         refine (unhide HOW).mono ?_
         rintro e w4 ⟨v4, rfl, o4, b4⟩
         obtain ⟨a4, c4, rfl, _, _⟩ := o4.form
         have z4 := b4.size
         obtain ⟨w5, hw5⟩ : ∃ z, z = w4.alloc (.cells #[.slice a4 x.length c4] 28) := ⟨_, rfl⟩
         have b5 : Below w4.heap.size w4 w5 := by rw [hw5]; exact (Below.refl _ _).alloc (Nat.le_refl _) _
         have k5 : Blk w5 w4.heap.size 28 #[.slice a4 x.length c4] := by rw [hw5]; exact Blk.new _ _ _ rfl
         have b35 : Below w3.heap.size w3 w5 := b4.trans (b5.mono z4)
         have z5 := b35.size
         have hr5 := ownsRow_below hr3 b35 (Nat.le_refl _)
         obtain ⟨hd, hhd⟩ : ∃ hd : Hdr, hd = ⟨a4, c4, x⟩ := ⟨_, rfl⟩
         have hc5 : ∀ j, j < 1 → w5.cell? ⟨w4.heap.size, 0 + j, none⟩ = some (hdAt [hd] j).val := fun j hj => by
          obtain rfl : j = 0 := by omega
          rw [hhd]
          exact k5.cell 0
         have HW5 := Lib.hid hw5
         have HHD := Lib.hid hhd
         have O4 := hide o4
         clear hw5 hhd o4 hr3 k5
         go_upto_region 10 with (at_builtin; rw [← HW5.out]; refine wpList_append_hdrsG rfl (.tmp 38) (.tmp 44) rfl (v := v3) (n := (m1 + 1)) (vs := (hs.take (m1 + 1)).map Hdr.val) (B := w1.heap.size) rfl hr5 n3 w4.heap.size 0 1 1 [hd] rfl rfl hc5 (by omega) (by omega) ?_; intro v6 w6 r6 n6 g6 _)
         have hg3 : ∀ q, v3.ownBlock = some q → w1.heap.size ≤ q ∧ q < w3.heap.size := fun q hq => ⟨(hr5.lt q hq).1, unhide HG3 q hq⟩
         have b6 : Below w1.heap.size w1 w6 := (b3.trans (b35.mono z3)).grown g6 (by omega) (fun q hq => (hg3 q hq).1)
         have z6 := b6.size
         have b6' := b1.trans (b6.mono z1)
         have o6 : Own w6 w3.heap.size (.slice a4 x.length c4) x := ((unhide O4).below b5 (Nat.le_refl _)).grow g6 (by
          cases e : Value.ownBlock (.slice a4 x.length c4) with
          | none => exact .inl rfl
          | some b =>
           refine .inr fun e2 => ?_
           have h1 := ((unhide O4).lt b e).1
           have h2 := (hg3 b e2.symm).2
           omega)
         have O6 := hide o6
         have R6 := hide r6
         clear g6 hr5 hc5 o6 r6
         have HDL := hide (show (hs.drop (m1 + 1)).length = i - (m1 + 1) by rw [List.length_drop]; omega)
         have HCD := hide (show ∀ j, j < i - (m1 + 1) → w6.cell? ⟨gv, (m1 + 1) + j, none⟩ = some (hdAt (hs.drop (m1 + 1)) j).val from fun j hj => by
          rw [unhide HCE w6 b6' ((m1 + 1) + j) (by omega), hdAt_lt (by omega), hdAt_lt (by rw [List.length_drop]; omega), List.getElem_drop])
         have hg6 : ∀ q, v6.ownBlock = some q → w1.heap.size ≤ q := fun q hq => ((unhide R6).lt q hq).1
         have HF7 := hide (show ∀ W v', W.ownsRow w1.heap.size 28 1 v' ((m1 + 1) + 1 + (i - (m1 + 1))) (((hs.take (m1 + 1)).map Hdr.val ++ [hd].map Hdr.val) ++ (hs.drop (m1 + 1)).map Hdr.val) → w6.grownBy W v6.ownBlock → OwnS W w.heap.size v' (M.take (m1 + 1) ++ x :: M.drop (m1 + 1)) from fun W v' hr hg => by
          have e1 : (hs.take (m1 + 1) ++ hd :: hs.drop (m1 + 1)).map Hdr.xs = M.take (m1 + 1) ++ x :: M.drop (m1 + 1) := by
           rw [List.map_append, List.map_cons, List.map_take, List.map_drop, HM.out, HHD.out]
          have e2 : ((hs.take (m1 + 1)).map Hdr.val ++ [hd].map Hdr.val) ++ (hs.drop (m1 + 1)).map Hdr.val = (hs.take (m1 + 1) ++ hd :: hs.drop (m1 + 1)).map Hdr.val := by simp
          have el : (hs.take (m1 + 1) ++ hd :: hs.drop (m1 + 1)).length = (m1 + 1) + 1 + (i - (m1 + 1)) := by simp; omega
          have hperm : (hs.take (m1 + 1) ++ hd :: hs.drop (m1 + 1)).Perm (hd :: hs) := by
           have h1 := List.perm_middle (a := hd) (l₁ := hs.take (m1 + 1)) (l₂ := hs.drop (m1 + 1))
           rwa [List.take_append_drop] at h1
          have hbb : Below wo.heap.size wo W := (b1.trans ((b6.grown hg z6 (fun q hq => hg6 q hq)).mono z1))
          rw [← e1]
          refine OwnS.of_hdrs (by omega) ?_ (fun k' hk' => ?_) ((hperm.pairwise_iff (fun a => Apt.symm a)).2 (List.pairwise_cons.2 ⟨fun k' hk' b hb1 hb2 => ?_, unhide HAPT⟩))
          · rw [el, ← e2]
            obtain ⟨h1, h2⟩ := hr
            refine ⟨h1, ?_⟩
            rcases h2 with h2 | ⟨g', cap, cur, e, hB', r⟩
            · exact .inl h2
            · exact .inr ⟨g', cap, cur, e, by omega, r⟩
          · rcases List.mem_cons.1 (hperm.mem_iff.1 hk') with rfl | hk'
            · rw [HHD.out]
              exact ((unhide O6).grow hg (Own.apart_rowS (unhide R6) (unhide O6))).mono (by omega)
            · exact (unhide HOWN k' hk').below hbb (Nat.le_refl _)
          · have h1 := ((unhide HOWN k' hk').lt b hb2).2
            rw [HHD.out] at hb1
            have h2 := ((unhide O6).lt b hb1).1
            omega)
         by_cases hcp : cv = (m1 + 1)
         · skip
           have hcc : (cv = (m1 + 1)) = True := eq_true hcp
           have hc0 : ∀ j, j < i - (m1 + 1) → w6.cell? ⟨gv, 0 + j, none⟩ = some (hdAt (hs.drop (m1 + 1)) j).val := fun j hj => by omega
           go_wp2_with (at_builtin; refine wpList_append_hdrsG rfl (.tmp 46) (.tmp 49) rfl (v := v6) (n := (m1 + 1) + 1) (vs := (hs.take (m1 + 1)).map Hdr.val ++ [hd].map Hdr.val) (B := w1.heap.size) rfl (unhide R6) n6 gv 0 (i - (m1 + 1)) 0 (hs.drop (m1 + 1)) rfl (unhide HDL) hc0 (by omega) (by omega) ?_; intro v7 w7 r7 n7 g7 _)
           have hnx := unhide HF7 w7 v7 r7 g7
           have b7 : Below w1.heap.size w1 w7 := b6.grown g7 z6 (fun q hq => hg6 q hq)
           have b7' := b1.trans (b7.mono z1)
           have HNX := hide hnx
           have N7 := hide n7
           have hbw := hb.trans (b7'.mono hsz)
           clear hnx r7 g7 n7
           go_roundw
           case rel => exact ⟨i + 1, _, by go_num, by omega, (unhide HML), unhide N7, unhide HIN, unhide HNX, hbw⟩
           case measure => simp only [intOf]; omega
         · skip
           have hne : (cv = (m1 + 1)) = False := eq_false hcp
           go_wp2_with (at_builtin; refine wpList_append_hdrsG rfl (.tmp 46) (.tmp 49) rfl (v := v6) (n := (m1 + 1) + 1) (vs := (hs.take (m1 + 1)).map Hdr.val ++ [hd].map Hdr.val) (B := w1.heap.size) rfl (unhide R6) n6 gv (m1 + 1) (i - (m1 + 1)) (cv - (m1 + 1)) (hs.drop (m1 + 1)) rfl (unhide HDL) (unhide HCD) (by omega) (by omega) ?_; intro v7 w7 r7 n7 g7 _)
           have hnx := unhide HF7 w7 v7 r7 g7
           have b7 : Below w1.heap.size w1 w7 := b6.grown g7 z6 (fun q hq => hg6 q hq)
           have b7' := b1.trans (b7.mono z1)
           have HNX := hide hnx
           have N7 := hide n7
           have hbw := hb.trans (b7'.mono hsz)
           clear hnx r7 g7 n7
           go_roundw
           case rel => exact ⟨i + 1, _, by go_num, by omega, (unhide HML), unhide N7, unhide HIN, unhide HNX, hbw⟩
           case measure => simp only [intOf]; omega
  · have hie : i = L.length := by omega
    have HI := Lib.hid (show M.length = L.length by omega)
    have HOO := hide ho.out
    have HN := hide hnn
    clear hie ho hnn
    go_wp2
    go_ret
    exact ⟨_, M, rfl, unhide HN, HI.out, hin.out, unhide HOO, hb⟩
end Go.Proofs.YtkiljcbejmiioaaGreat
