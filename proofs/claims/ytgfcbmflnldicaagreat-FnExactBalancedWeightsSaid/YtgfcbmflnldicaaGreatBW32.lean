/-
  Texts joined.
-/
import Derived.Test.YtgfcbmflnldicaaGreatBW17
import Derived.Test.YtgfcbmflnldicaaGreatBW30
import Derived.Test.YtgfcbmflnldicaaGreatBW31
set_option linter.unusedVariables false
set_option linter.unusedSimpArgs false
set_option maxRecDepth 100000
set_option maxHeartbeats 40000000
namespace Go.Proofs.YtgfcbmflnldicaaGreat
open Go.RowKit
attribute [local go_sem ↓] Go.wp_at_zero Go.wp_at_succ
theorem l05Find_any (ra : Option Addr) (rc : Nat) (L : List (List Int)) (a : Option Addr) (c : Nat) (x : List Int) (w : World) (hL : RdS w ra L) (hx : Rd w a x) (hs : L.Pairwise LtL) (hl : L.length ≤ 1000000) :
    Calls Tryz.prog 128 #[.slice ra L.length rc, .slice a x.length c] w fun e w' => ∃ (p : Nat) (b : Bool), e = .returned (.tuple #[.int .i64 p, .bool b]) ∧ (b = true → x ∈ L) ∧ (b = false → At L x p) ∧ Qt w w' := by
 have hxl := hx.len
 have HL := hide hL
 have HX := hide hx
 have HS := hide (show ∀ i j, i < j → j < L.length → LtL (nthL L i) (nthL L j) from fun i j h1 h2 => by
  rw [nthL_lt (by omega), nthL_lt h2]
  exact List.pairwise_iff_getElem.1 hs i j (by omega) h2 h1)
 clear hL hx hs
 go_enter Tryz.func128, Tryz.ntmps128
 go_wp2_with fail
 go_loopw [6, 7] (fun iv jv wr => ∃ i j : Nat, iv = .int .i64 i ∧ jv = .int .i64 j ∧ i ≤ j ∧ j ≤ L.length ∧ Hid (∀ t, t < i → LtL (nthL L t) x) ∧ Hid (∀ t, j ≤ t → t < L.length → LtL x (nthL L t)) ∧ Qt w wr) (fun iv jv _ => (intOf jv).toNat - (intOf iv).toNat)
 case atStart => exact ⟨0, L.length, rfl, rfl, Nat.zero_le _, Nat.le_refl _, fun t ht => by omega, fun t h1 h2 => by omega, Qt.refl _⟩
 case round =>
  obtain ⟨i, j, rfl, rfl, hij, hj, hlo, hhi, hqt⟩ := hrel
  by_cases hlt : i < j
  · obtain ⟨h, hh, hh1, hh2⟩ : ∃ h : Nat, h = (i + j) / 2 ∧ i ≤ h ∧ h < j := ⟨_, rfl, by omega, by omega⟩
    have hhe : ((i : Int) + (j : Int)) / 2 = (h : Int) := by omega
    have hhl : h < L.length := by omega
    obtain ⟨b1, o1, rfl, _, hc⟩ := (unhide HL).at_ (by omega)
    obtain ⟨ai, ci, h3, hri⟩ := hc h hhl
    have g1 : wr.cell? ⟨b1, o1 + h, none⟩ = some (.slice ai (nthL L h).length ci) := by obtain ⟨_, rfl⟩ := hqt; exact h3
    have hcs := compareS_any ai a ci c (nthL L h) x wr (hri.below (hqt.below _)) ((unhide HX).below (hqt.below _))
    have hrl := hri.len
    have htr := ltL_tri (nthL L h) x
    have hz1 : cmpL (nthL L h) x = 0 ↔ nthL L h = x := cmpL_zero
    have hmem : nthL L h ∈ L := by rw [nthL_lt hhl]; exact List.getElem_mem hhl
    have hbel : LtL (nthL L h) x → ∀ t, t < h + 1 → LtL (nthL L t) x := fun h1 t ht => by
     rcases Nat.lt_succ_iff_lt_or_eq.1 ht with h2 | rfl
     · exact (unhide HS t h h2 hhl).trans h1
     · exact h1
    have habv : LtL x (nthL L h) → ∀ t, h ≤ t → t < L.length → LtL x (nthL L t) := fun h1 t h2 h3 => by
     rcases Nat.lt_or_eq_of_le h2 with h4 | rfl
     · exact h1.trans (unhide HS h t h4 h3)
     · exact h1
    have hneg : LtL (nthL L h) x ↔ cmpL (nthL L h) x < 0 := Iff.rfl
    have hgt : ¬ nthL L h = x → ¬ LtL (nthL L h) x → LtL x (nthL L h) := fun h1 h2 => by
     rcases htr with h3 | h3 | h3
     · exact absurd h3 h2
     · exact absurd h3 h1
     · exact h3
    obtain ⟨row, hrow⟩ : ∃ row, row = nthL L h := ⟨_, rfl⟩
    rw [← hrow] at g1 hcs hrl hz1 hmem hbel habv hneg hgt
    obtain ⟨z, hz⟩ : ∃ z, z = cmpL row x := ⟨_, rfl⟩
    rw [← hz] at hcs hz1 hneg
    have HCS := hide hcs
    have HZ1 := hide hz1
    have HNEG := hide hneg
    have HMEM := hide hmem
    have HBEL := hide hbel
    have HABV := hide habv
    have HGT := hide hgt
    clear hh hc h3 hri hcs htr hz1 hmem hbel habv hneg hgt hrow hz
    by_cases hz0 : z = 0
    · have hze : (z == 0) = true := by rw [beq_iff_eq]; exact hz0
      have HE := Lib.hid hz0
      clear hz0
      go_wp2_with fail
      refine (unhide HCS).mono ?_
      rintro e w1 ⟨rfl, q1⟩
      go_wp2
      go_ret2
      exact ⟨h, true, rfl, fun _ => by rw [← (unhide HZ1).1 HE.out]; exact unhide HMEM, fun e => by (cases e), hqt.trans q1⟩
    · have hze : (z == 0) = false := by rw [beq_eq_false_iff_ne]; exact hz0
      by_cases hzn : z < 0
      · have hnx := unhide HBEL ((unhide HNEG).2 hzn)
        have HNX := hide hnx
        clear hnx hz0 hlo
        go_wp2_with fail
        refine (unhide HCS).mono ?_
        rintro e w1 ⟨rfl, q1⟩
        go_wp2
        go_roundw
        case rel => exact ⟨h + 1, j, by go_num, rfl, by omega, hj, unhide HNX, hhi, hqt.trans q1⟩
        case measure => simp only [intOf]; omega
      · have hnx := unhide HABV (unhide HGT (fun e => hz0 ((unhide HZ1).2 e)) (fun e => hzn ((unhide HNEG).1 e)))
        have HNX := hide hnx
        clear hnx hz0 hhi
        go_wp2_with fail
        refine (unhide HCS).mono ?_
        rintro e w1 ⟨rfl, q1⟩
        go_wp2
        go_roundw
        case rel => exact ⟨i, h, rfl, rfl, by omega, by omega, hlo, unhide HNX, hqt.trans q1⟩
        case measure => simp only [intOf]; omega
  · obtain rfl : i = j := by omega
    have HAT := hide (show At L x i from ⟨hj, hlo.out, hhi.out⟩)
    clear hlo hhi
    go_wp2
    go_ret2
    exact ⟨i, false, rfl, fun e => by (cases e), fun _ => unhide HAT, hqt⟩
theorem wpList_append_hdrs {w : World} {ops : Array Oper} {rest : List Oper} {o : Oper} {a : Act} {Q : Exit → Act → World → Prop} (hgd : o.guard = none) (s x : Operand)
    (ho : o.op = .call { callee := .builtin .append, args := #[s, x], argTypes := #[42, 42] }) {B n : Nat} {v : Value} {vs : List Value} (hs : a.eval s = v) (hown : w.ownsRow B 24 1 v n vs) (hv : v ≠ .slice none 0 0)
    (b off m c : Nat) (news : List Hdr) (hx : a.eval x = .slice (some ⟨b, off, none⟩) m c) (hl : news.length = m) (hc : ∀ j, j < m → w.cell? ⟨b, off + j, none⟩ = some (hdAt news j).val) (hn : n + m ≤ 1000000) (hB : B ≤ w.heap.size)
    (h : ∀ v' w', w'.ownsRow B 24 1 v' (n + m) (vs ++ news.map Hdr.val) → v' ≠ .slice none 0 0 → w.grownBy w' v.ownBlock → (v'.ownBlock = v.ownBlock ∨ v'.ownBlock = some w.heap.size) → wpList Tryz.prog ops Q rest (a.put o.dst v') w') :
    wpList Tryz.prog ops Q (o :: rest) a w := by
 obtain ⟨i0, hi0, hz0, hz1, hz2⟩ := info_parts Tryz.info_row
 refine wpList_append_own_at w hgd s x 42 ho B 24 i0 (.slice none 0 0) 1 24 Tryz.underlying42 hi0 hz0 hz1 hz2 rfl (by omega) v n vs hs hown ⟨b, off, none⟩ m c (news.map Hdr.val) hx (by rw [List.length_map]; omega) (fun j u hu => ?_) (fun u hu => ?_) (by unfold maxLen; omega) (by omega) hB ?_
 · rw [List.getElem?_map] at hu
   have hj : j < m := by
    rcases Nat.lt_or_ge j news.length with h1 | h1
    · omega
    · rw [List.getElem?_eq_none h1] at hu; cases hu
   rw [List.getElem?_eq_getElem (by omega)] at hu
   injection hu with hu
   rw [Addr.add_lit, hc j hj, hdAt_lt (by omega), hu]
 · obtain ⟨k, _, rfl⟩ := List.mem_map.1 hu
   rfl
 · intro v' w' h1 h2 h3 h4
   exact h v' w' h1 (fun e => hv (h3.1 e).1) h2 h4
theorem l05Put_any {B : Nat} {L : List (List Int)} {x : List Int} {vp : Value} (g c p : Nat) (w : World) (hL : OwnS w B (.slice (some ⟨g, 0, none⟩) L.length c) L) (hx : Own w B vp x) (hp : p ≤ L.length) (hl : L.length ≤ 100000) (N : Nat) (hN : OwnSH w B N (.slice (some ⟨g, 0, none⟩) L.length c) L) (hvN : ∀ b, vp.ownBlock = some b → N ≤ b) (hB : B ≤ w.heap.size) :
    Calls Tryz.prog 129 #[.slice (some ⟨g, 0, none⟩) L.length c, .int .i64 p, vp] w fun e w' => ∃ v', e = .returned v' ∧ OwnS w' B v' (L.take p ++ x :: L.drop p) ∧ v' ≠ .slice none 0 0 ∧ Below w.heap.size w w' := by
 obtain ⟨hs, hm, hV, hown, hapt⟩ := hL.hdrs (by omega)
 have hhl : hs.length = L.length := by rw [← hm, List.length_map]
 obtain ⟨ap, cp, rfl, hrp, hltp⟩ := hx.form
 obtain ⟨hd, hhd⟩ : ∃ hd : Hdr, hd = ⟨ap, cp, x⟩ := ⟨_, rfl⟩
 have hdv : hd.val = .slice ap x.length cp := by rw [hhd]; rfl
 have hapt2 : (hd :: hs).Pairwise Apt := by
  rw [List.pairwise_cons]
  refine ⟨fun k hk b hb => ?_, hapt⟩
  obtain ⟨i, hi, rfl⟩ := List.getElem_of_mem hk
  rw [hdv] at hb
  have hcl := hV.cell (j := i) hi
  rw [hdAt_lt hi] at hcl
  intro hb2
  obtain ⟨_, vs, hr, _, _, hbn⟩ := hN
  have h1 := hr.cellAt i (by omega)
  rw [h1] at hcl
  have := hbn i _ hcl b hb2
  have := hvN b hb
  omega
 have hown2 : ∀ k ∈ hd :: hs, Own w B k.val k.xs := fun k hk => by
  rcases List.mem_cons.1 hk with rfl | hk
  · rw [hhd]; exact hx
  · exact hown k hk
 have hcc : L.length ≤ c ∧ c ≤ 9223372036854775807 := by
  rcases hV.2.1.2 with ⟨e, _⟩ | ⟨g', cap', cur, e, _, _, h5, h6, _⟩
  · cases e
  · injection e with _ _ e
    unfold maxLen at h6
    omega
 obtain ⟨hcc1, hcc2⟩ := hcc
 have hcell : ∀ j, j < L.length → w.cell? ⟨g, j, none⟩ = some (hdAt hs j).val := fun j hj => hV.cell (by omega)
 have hgl : g < w.heap.size := by
  rcases hV.form with ⟨e, _⟩ | ⟨g', c', e, _, h⟩
  · cases e
  · injection e with e _ _
    injection e with e
    injection e with e _
    omega
 have HCE := hide (show ∀ W, Below w.heap.size w W → ∀ j, j < L.length → W.cell? ⟨g, j, none⟩ = some (hdAt hs j).val from fun W h j hj => (h.cell (p := ⟨g, j, none⟩) hgl).trans (hcell j hj))
 have HFIN := hide (show ∀ W v', Below w.heap.size w W → W.ownsRow B 24 1 v' (p + 1 + (L.length - p)) (((hs.take p).map Hdr.val ++ [hd.val]) ++ (hs.drop p).map Hdr.val) → OwnS W B v' (L.take p ++ x :: L.drop p) from fun W v' hb hr => by
  have e1 : (hs.take p ++ hd :: hs.drop p).map Hdr.xs = L.take p ++ x :: L.drop p := by
   rw [List.map_append, List.map_cons, List.map_take, List.map_drop, hm, hhd]
  have e2 : ((hs.take p).map Hdr.val ++ [hd.val]) ++ (hs.drop p).map Hdr.val = (hs.take p ++ hd :: hs.drop p).map Hdr.val := by simp
  have el : (hs.take p ++ hd :: hs.drop p).length = p + 1 + (L.length - p) := by simp; omega
  have hperm : (hs.take p ++ hd :: hs.drop p).Perm (hd :: hs) := by
   have h1 := List.perm_middle (a := hd) (l₁ := hs.take p) (l₂ := hs.drop p)
   rwa [List.take_append_drop] at h1
  rw [← e1]
  refine OwnS.of_hdrs (by rw [el]; omega) (by rw [el, ← e2]; exact hr) (fun k hk => (hown2 k (hperm.mem_iff.1 hk)).below hb (Nat.le_refl _)) ((hperm.pairwise_iff (fun a => Apt.symm a)).2 hapt2))
 have HDV := Lib.hid hdv
 have p1 : (p : Int) ≤ (c : Int) := by omega
 have p2 : ¬ (L.length : Int) < (p : Int) := by omega
 have p3 : 0 ≤ (p : Int) := by omega
 have p4 : (p : Int) ≤ (L.length : Int) := by omega
 clear hL hm hV hown hapt hhd hdv hapt2 hown2 hcell hN hvN hx hrp hltp
 go_enter Tryz.func129, Tryz.ntmps129
 go_upto_region 1 with fail
 obtain ⟨w1, hw1⟩ : ∃ z, z = w.alloc (.cells #[] 24) := ⟨_, rfl⟩
 have b1 : Below w.heap.size w w1 := by rw [hw1]; exact (Below.refl _ _).alloc (Nat.le_refl _) _
 have hr1 : w1.ownsRow w.heap.size 24 1 (.slice (some ⟨w.heap.size, 0, none⟩) 0 0) 0 [] := by rw [hw1]; exact World.ownsRow_made w #[] 0 (Nat.le_refl _) (Nat.zero_le _) (by simp)
 have z1 := b1.size
 have HW1 := Lib.hid hw1
 clear hw1
 go_upto_region 2 with (at_builtin; rw [← HW1.out]; refine wpList_append_hdrs rfl (.tmp 8) (.tmp 11) rfl (v := .slice (some ⟨w.heap.size, 0, none⟩) 0 0) (n := 0) (vs := []) (B := w.heap.size) rfl hr1 (by simp) g 0 p c (hs.take p) rfl (by rw [List.length_take]; omega) (fun j hj => ?_) (by omega) z1 ?_; (rw [Nat.zero_add, unhide HCE w1 b1 j (by omega), hdAt_lt (by omega), hdAt_lt (by rw [List.length_take]; omega), List.getElem_take]); intro v2 w2 r2 n2 g2 _)
 have b2 : Below w.heap.size w w2 := b1.grown g2 z1 (fun q hq => by simp [Value.ownBlock] at hq; omega)
 have hr2 : w2.ownsRow w.heap.size 24 1 v2 p ((hs.take p).map Hdr.val) := by simpa using r2
 have z2 := b2.size
 have hg2 : ∀ q, v2.ownBlock = some q → w.heap.size ≤ q := fun q hq => (hr2.lt q hq).1
 obtain ⟨w3, hw3⟩ : ∃ z, z = w2.alloc (.cells #[.slice ap x.length cp] 24) := ⟨_, rfl⟩
 have b3 : Below w2.heap.size w2 w3 := by rw [hw3]; exact (Below.refl _ _).alloc (Nat.le_refl _) _
 have k3 : Blk w3 w2.heap.size 24 #[.slice ap x.length cp] := by rw [hw3]; exact Blk.new _ _ _ rfl
 have hr3 := ownsRow_below hr2 b3 (Nat.le_refl _)
 have z3 := b3.size
 have b3' := b2.trans (b3.mono z2)
 have HW3 := Lib.hid hw3
 have hc1 : ∀ j, j < 1 → w3.cell? ⟨w2.heap.size, 0 + j, none⟩ = some (hdAt [hd] j).val := fun j hj => by
  obtain rfl : j = 0 := by omega
  exact (k3.cell 0).trans (congrArg some HDV.out.symm)
 clear r2 hw3 hr1 g2
 go_upto_region 3 with (at_builtin; (rw [← HW3.out]; refine wpList_append_hdrs rfl (.tmp 13) (.tmp 15) rfl (v := v2) (n := p) (vs := (hs.take p).map Hdr.val) (B := w.heap.size) rfl hr3 n2 w2.heap.size 0 1 1 [hd] rfl rfl hc1 (by omega) (by omega) ?_; intro v4 w4 r4 n4 g4 _))
 have b4 : Below w.heap.size w w4 := b3'.grown g4 (by omega) (fun q hq => hg2 q hq)
 have z4 := b4.size
 have hg4 : ∀ q, v4.ownBlock = some q → w.heap.size ≤ q := fun q hq => (r4.lt q hq).1
 have hc4 := unhide HCE w4 b4
 clear g4 hr3 hr2 k3 b3 hc1
 have hdl : (hs.drop p).length = L.length - p := by rw [List.length_drop]; omega
 have hcd : ∀ j, j < L.length - p → w4.cell? ⟨g, p + j, none⟩ = some (hdAt (hs.drop p) j).val := fun j hj => by
  rw [hc4 (p + j) (by omega), hdAt_lt (by omega), hdAt_lt (by omega), List.getElem_drop]
 have hfin : ∀ W v', Below w.heap.size w W → W.ownsRow w.heap.size 24 1 v' (p + 1 + (L.length - p)) (((hs.take p).map Hdr.val ++ [hd].map Hdr.val) ++ (hs.drop p).map Hdr.val) → OwnS W B v' (L.take p ++ x :: L.drop p) := fun W v' hb hr => unhide HFIN W v' hb (by
  obtain ⟨h1, h2⟩ := hr
  refine ⟨h1, ?_⟩
  rcases h2 with h2 | ⟨g', cap, cur, e, hB', r⟩
  · exact .inl h2
  · exact .inr ⟨g', cap, cur, e, by omega, r⟩)
 have HF := hide hfin
 have HCD := hide hcd
 clear hc4 hfin hcd
 by_cases hcp : c = p
 · have hz : L.length - p = 0 := by omega
   have hpl : L.length = p := by omega
   have HZ := Lib.hid hz
   have hcc : (c = p) = True := eq_true hcp
   have hc0 : ∀ j, j < 0 → w4.cell? ⟨g, 0 + j, none⟩ = some (hdAt (hs.drop p) j).val := fun j hj => by omega
   have hdl0 : (hs.drop p).length = 0 := by omega
   clear hz
   subst hcp
   rw [hpl]
   go_wp2_with (at_builtin; refine wpList_append_hdrs rfl (.tmp 17) (.tmp 20) rfl (v := v4) (n := c + 1) (vs := (hs.take c).map Hdr.val ++ [hd].map Hdr.val) (B := w.heap.size) rfl r4 n4 g 0 0 0 (hs.drop c) rfl hdl0 hc0 (by omega) (by omega) ?_; intro v5 w5 r5 n5 g5 _)
   have b5 := b4.grown g5 z4 (fun q hq => hg4 q hq)
   go_wp2
   go_ret
   exact ⟨_, rfl, unhide HF w5 v5 b5 (by rw [HZ.out]; exact r5), n5, b5⟩
 · have hne : (c = p) = False := eq_false hcp
   have hdl1 : (hs.drop p).length = L.length - p := hdl
   go_wp2_with (at_builtin; refine wpList_append_hdrs rfl (.tmp 17) (.tmp 20) rfl (v := v4) (n := p + 1) (vs := (hs.take p).map Hdr.val ++ [hd].map Hdr.val) (B := w.heap.size) rfl r4 n4 g p (L.length - p) (c - p) (hs.drop p) rfl hdl1 (unhide HCD) (by omega) (by omega) ?_; intro v5 w5 r5 n5 g5 _)
   have b5 := b4.grown g5 z4 (fun q hq => hg4 q hq)
   go_wp2
   go_ret
   exact ⟨_, rfl, unhide HF w5 v5 b5 r5, n5, b5⟩
theorem l20Supports_any (gC : Nat) (F : FD) (ra : Option Addr) (rc : Nat) (m : List (List Int)) (n : Nat) (k : Int) (w : World) (hF : PF w gC F) (hc3 : w.cell? ⟨gC, 3, none⟩ = some (.slice ra m.length rc)) (hm : RdS w ra m) (hC : GC F n m) :
    Calls Tryz.prog 63 #[.pointer (some ⟨gC, 0, none⟩), .int .i64 k] w fun e w' => ∃ v, e = .returned v ∧ OwnS w' w.heap.size v (supW F n m k) ∧ Below w.heap.size w w' := by
 have ok := hC.good.ok
 obtain ⟨n2, n64⟩ := ok.n_bd
 have HWO := hide (l18Words_any gC F ra rc m n w hF hc3 hm hC)
 have hwl : (wordsTo F n m m.length).length ≤ 4096 := by
  have h1 := capTo_eq (by omega) hC.cap
  have h2 := hC.cap
  rw [h1, ← Int.natCast_pow] at h2
  rw [wordsTo_len]
  omega
 have hsw : supW F n m k = distL (supps (wordsTo F n m m.length) k) := rfl
 obtain ⟨W, hW⟩ : ∃ W, W = wordsTo F n m m.length := ⟨_, rfl⟩
 rw [← hW] at HWO hwl hsw
 have HSW := Lib.hid hsw
 clear hW hsw hC hF hc3 hm
 go_enter Tryz.func63, Tryz.ntmps63
 go_wp2_with fail
 refine (unhide HWO).mono ?_
 rintro e w1 ⟨v1, rfl, o1, b1⟩
 obtain ⟨a1, c1, rfl, r1⟩ := o1.form
 have HR1 := hide r1
 have z1 := b1.size
 clear o1 r1
 go_wp2_with fail
 go_loopw [6, 7] (fun v iv wr => ∃ i : Nat, iv = .int .i64 i ∧ i ≤ W.length ∧ v ≠ .slice none 0 0 ∧ Hid (OwnS wr w1.heap.size v (distL (supps (W.take i) k))) ∧ Below w1.heap.size w1 wr) (fun _ iv _ => W.length - (intOf iv).toNat)
 case atStart => exact ⟨0, rfl, Nat.zero_le _, by simp, by show OwnS _ _ _ _; rw [show distL (supps (W.take 0) k) = [] by simp [supps, distL, sortL, cmpct]]; exact OwnS.empty w1 (Nat.le_refl _), (Below.refl _ _).alloc (Nat.le_refl _) _⟩
 case round =>
  obtain ⟨i, rfl, hi, hnn, ho, hb⟩ := hrel
  have hsz := hb.size
  rename World => wo
  by_cases hil : i < W.length
  · obtain ⟨b2, o2, rfl, hb2, hc⟩ := (unhide HR1).at_ (by omega)
    obtain ⟨ai, ci, h3, hri⟩ := hc i hil
    have g1 := (hb.cell (p := ⟨b2, o2 + i, none⟩) hb2).trans h3
    have hriW := hri.below hb
    have hwo := l18Weight_any ai ci (nthL W i) wo hriW
    have hso := l20Support_any ai ci (nthL W i) wo hriW
    have hhit := supps_hit (W := W) (k := k) hil
    have hmis := supps_miss (W := W) (k := k) hil
    have hrl := hri.len
    have hSl := supps_len (W.take i) k
    have hDl := distL_len (supps (W.take i) k)
    rw [List.length_take] at hSl
    obtain ⟨row, hrow⟩ : ∃ row, row = nthL W i := ⟨_, rfl⟩
    rw [← hrow] at g1 hwo hso hhit hmis hrl
    obtain ⟨t, ht⟩ : ∃ t : Int, t = ((wt row : Nat) : Int) := ⟨_, rfl⟩
    rw [← ht] at hwo hhit hmis
    obtain ⟨S, hS⟩ : ∃ S, S = suppTo row row.length := ⟨_, rfl⟩
    rw [← hS] at hso hhit
    have HWT := hide hwo
    have HSO := hide hso
    clear hwo hso hri h3 hc hrow ht hS
    by_cases hk : t = k
    · have hke : (t != k) = false := by rw [bne_eq_false_iff_eq]; exact hk
      have HK := Lib.hid hk
      obtain ⟨X, hX⟩ : ∃ X, X = supps (W.take i) k := ⟨_, rfl⟩
      have hh := hhit hk
      rw [← hX] at ho hh hSl hDl
      have HH := Lib.hid hh
      have hstr := distL_strict X
      have hput := fun p (h : At (distL X) S p) => put_dist h
      have hagn := fun (h : S ∈ distL X) => dist_again h
      obtain ⟨L, hL⟩ : ∃ L, L = distL X := ⟨_, rfl⟩
      rw [← hL] at ho hstr hput hagn hDl
      obtain ⟨gv, cv, rfl, hgv⟩ : ∃ gv cv, u6 = .slice (some ⟨gv, 0, none⟩) L.length cv ∧ w1.heap.size ≤ gv := by
       obtain ⟨_, vs, hr, _⟩ := ho.out
       rcases hr.2 with ⟨e, _⟩ | ⟨g', cap, cur, e, hB, _⟩
       · exact absurd e hnn
       · exact ⟨g', cap, e, hB⟩
      have HO := hide ho.out.toH
      have HSTR := hide hstr
      have HPUT := hide hput
      have HAGN := hide hagn
      have HL := Lib.hid hL
      clear hhit hmis ho hk hX hh hstr hput hagn hL hnn
      go_wp2_with fail
      refine (unhide HWT).mono ?_
      rintro e w2 ⟨rfl, rfl⟩
      go_wp2_with fail
      refine (unhide HSO).mono ?_
      rintro e w3 ⟨v3, rfl, o3, b3⟩
      obtain ⟨a3, c3, rfl, r3, _⟩ := o3.form
      have HH3 := hide ((unhide HO).belw b3 (Nat.le_refl _))
      have O3 := hide o3
      have z3 := b3.size
      have hbw := hb.trans (b3.mono hsz)
      have HF3 := hide (l05Find_any (some ⟨gv, 0, none⟩) cv L a3 c3 S w3 (unhide HH3).rd r3 (unhide HSTR) (by omega))
      clear o3 r3
      go_wp2_with fail
      refine (unhide HF3).mono ?_
      rintro e w4 ⟨p, bq, rfl, hb1, hb0, q4⟩
      have b4 := q4.below w3.heap.size
      have hbw4 := hbw.trans (b4.mono (by omega))
      have HH4 := hide ((unhide HH3).belw b4 (by omega))
      cases bq with
      | true =>
       have hmem := hb1 rfl
       have hnx : OwnS w4 w1.heap.size (.slice (some ⟨gv, 0, none⟩) L.length cv) (distL (supps (W.take (i + 1)) k)) := by
        rw [HH.out, ← unhide HAGN hmem]
        exact (unhide HH4).own
       have HNX := hide hnx
       clear hb1 hb0 hmem hnx
       go_wp2
       go_roundw
       case rel => exact ⟨i + 1, by go_num, by omega, by simp, unhide HNX, hbw4⟩
       case measure => simp only [intOf]; omega
      | false =>
       have hat := hb0 rfl
       have hpl := hat.le
       have hcp := unhide HPUT p hat
       have o4 := (unhide O3).below b4 (Nat.le_refl _)
       have HPT := hide (l05Put_any (B := w1.heap.size) gv cv p w4 (unhide HH4).own (o4.mono hsz) hpl (by omega) wo.heap.size (unhide HH4) (fun b hb => (o4.lt b hb).1) (by have := q4.below 0 |>.size; omega))
       have HCP := Lib.hid hcp
       have z4 := b4.size
       clear hb1 hb0 hat hcp o4
       go_wp2_with fail
       refine (unhide HPT).mono ?_
       rintro e w5 ⟨v5, rfl, o5, n5, b5⟩
       have hnx : OwnS w5 w1.heap.size v5 (distL (supps (W.take (i + 1)) k)) := by
        rw [HH.out, ← HCP.out]
        exact o5
       have HNX := hide hnx
       have hbw5 := hbw4.trans (b5.mono (by omega))
       have N5 := hide n5
       clear hnx o5 n5
       go_wp2
       go_roundw
       case rel => exact ⟨i + 1, by go_num, by omega, unhide N5, unhide HNX, hbw5⟩
       case measure => simp only [intOf]; omega
    · have HH := Lib.hid (hmis hk)
      have hke : (t != k) = true := by rw [bne_iff_ne]; exact hk
      have N5 := hide hnn
      clear hhit hmis hk hnn
      go_wp2_with fail
      refine (unhide HWT).mono ?_
      rintro e w2 ⟨rfl, rfl⟩
      go_wp2_with fail
      go_roundw
      case rel => exact ⟨i + 1, by go_num, by omega, unhide N5, by show OwnS _ _ _ _; rw [HH.out]; exact ho.out, hb⟩
      case measure => simp only [intOf]; omega
  · have hie : i = W.length := by omega
    have hoo := ho.out
    rw [hie, List.take_length, ← HSW.out] at hoo
    have HOO := hide (hoo.mono z1)
    clear hie hoo ho hnn
    go_wp2
    go_ret
    exact ⟨_, rfl, unhide HOO, b1.trans (hb.mono z1)⟩
noncomputable def askV (p d : Int) (xs : List Int) (m : List (List Int)) (k : Int) : Int := if okC p d xs m = true then (if inB k 1 (nthL m 0).length = true then 0 else 2) else 1
theorem l20Ask_any (g : Nat) (p d : Int) (a : Option Addr) (c : Nat) (xs : List Int) (ra : Option Addr) (rc : Nat) (m : List (List Int)) (k : Int) (w : World) (hP : PC w g p d a c xs ra rc m) :
    Calls Tryz.prog 62 #[.pointer (some ⟨g, 0, none⟩), .int .i64 k] w fun e w' => e = .returned (.int .i64 (askV p d xs m k)) ∧ Below w.heap.size w w' := by
 have hml := hP.2.2.len
 have hV := l18Ok_any g p d a c xs ra rc m w hP
 unfold askV
 cases hk : okC p d xs m with
 | false =>
  rw [hk] at hV
  have HV := hide hV
  rw [if_neg (by simp)]
  clear hV hk hP
  go_enter Tryz.func62, Tryz.ntmps62
  go_wp2_with fail
  refine (unhide HV).mono ?_
  rintro e w1 ⟨rfl, b1⟩
  go_wp2
  go_ret
  exact ⟨rfl, b1⟩
 | true =>
  rw [hk] at hV
  have HV := hide hV
  rw [if_pos rfl]
  obtain ⟨F, n, rfl, rfl, rfl, hC⟩ := okC_gc hk
  rw [hC.hn]
  have hm1 := hC.m1
  obtain ⟨gb, ob, ai, ci, rfl, hro, hgb⟩ := hP.row0 (by omega)
  rw [hC.hn] at hro
  have hm0 : 0 < m.length := by omega
  have HWI := hide (fun W => l00In_any k 1 n W)
  obtain ⟨q, hq⟩ : ∃ q, q = inB k 1 n := ⟨_, rfl⟩
  simp only [← hq] at HWI
  rw [← hq]
  clear hV hk hC hq
  have hg := hP.1.lt
  have hc3 := hP.2.1
  go_enter Tryz.func62, Tryz.ntmps62
  go_wp2_with fail
  refine (unhide HV).mono ?_
  rintro e w1 ⟨rfl, b1⟩
  have f3 := (b1.cell (p := ⟨g, 3, none⟩) hg).trans hc3
  have fr := (b1.cell (p := ⟨gb, ob, none⟩) hgb).trans hro
  clear hP
  go_wp2_with fail
  refine (unhide HWI _).mono ?_
  rintro e w2 ⟨rfl, rfl⟩
  cases q with
  | false =>
   go_wp2
   go_ret
   exact ⟨rfl, b1⟩
  | true =>
   go_wp2
   go_ret
   exact ⟨rfl, b1⟩
end Go.Proofs.YtgfcbmflnldicaaGreat
namespace Go.Proofs.YtgfcbmflnldicaaGreat
open Go.RowKit
attribute [local go_sem ↓] Go.wp_at_zero Go.wp_at_succ
theorem Own.apart_row {w : World} {B B' n : Nat} {v u : Value} {vs : List Value} {xs : List Int} (h : w.ownsRow B 24 1 v n vs) (o : Own w B' u xs) : u.ownBlock = none ∨ u.ownBlock ≠ v.ownBlock := by
 cases e : u.ownBlock with
 | none => exact .inl rfl
 | some b => exact .inr fun e2 => Own.notSliceBlock h o b e e2.symm
theorem l10Sort_any (ra : Option Addr) (rc : Nat) (L : List (List Int)) (w : World) (hL : RdS w ra L) (hs : L.Pairwise LtL) (hl : L.length ≤ 4096) :
    Calls Tryz.prog 131 #[.slice ra L.length rc] w fun e w' => ∃ v, e = .returned v ∧ OwnS w' w.heap.size v L ∧ Below w.heap.size w w' := by
 have HL := hide hL
 have HS := hide (show ∀ i j, i < j → j < L.length → LtL (nthL L i) (nthL L j) from fun i j h1 h2 => by
  rw [nthL_lt (by omega), nthL_lt h2]
  exact List.pairwise_iff_getElem.1 hs i j (by omega) h2 h1)
 clear hL hs
 go_enter Tryz.func131, Tryz.ntmps131
 go_wp2_with fail
 go_loopw [3, 4] (fun v iv wr => ∃ i : Nat, iv = .int .i64 i ∧ i ≤ L.length ∧ v ≠ .slice none 0 0 ∧ Hid (OwnS wr w.heap.size v (L.take i)) ∧ Below w.heap.size w wr) (fun _ iv _ => L.length - (intOf iv).toNat)
 case atStart => exact ⟨0, rfl, Nat.zero_le _, by simp, OwnS.empty w (Nat.le_refl _), (Below.refl _ _).alloc (Nat.le_refl _) _⟩
 case round =>
  obtain ⟨i, rfl, hi, hnn, ho, hb⟩ := hrel
  have hsz := hb.size
  rename World => wo
  by_cases hil : i < L.length
  · have htl : (L.take i).length = i := by rw [List.length_take]; omega
    obtain ⟨hs, hm, hV, hown, hapt⟩ := ho.out.hdrs (by omega)
    have hhl : hs.length = i := by rw [← htl, ← hm, List.length_map]
    obtain ⟨gv, cv, rfl, hgv⟩ : ∃ gv cv, u3 = .slice (some ⟨gv, 0, none⟩) i cv ∧ gv < wo.heap.size := by
     rcases hV.form with ⟨e, _⟩ | ⟨g', c', e, _, h⟩
     · exact absurd e hnn
     · exact ⟨g', c', by rw [e, hhl], h⟩
    have hic : i ≤ cv ∧ cv ≤ 9223372036854775807 := by
     rcases hV.2.1.2 with ⟨e, _⟩ | ⟨g', cap', cur, e, _, _, h5, h6, _⟩
     · cases e
     · injection e with _ _ e
       unfold maxLen at h6
       omega
    obtain ⟨hic, hic2⟩ := hic
    have HCE := hide (show ∀ W, Below wo.heap.size wo W → ∀ j, j < i → W.cell? ⟨gv, j, none⟩ = some (hdAt hs j).val from fun W h j hj => (h.cell (p := ⟨gv, j, none⟩) hgv).trans (hV.cell (by omega)))
    have HRD := hide (fun j => (hV.rd j).1)
    have hxs : ∀ j, j < i → (hdAt hs j).xs = nthL L j := fun j hj => by
     have h1 : nthL (L.take i) j = nthL L j := by rw [nthL_lt (by omega), nthL_lt (by omega), List.getElem_take]
     rw [← h1, ← hm, nthL_lt (by rw [List.length_map]; omega), List.getElem_map, hdAt_lt (by omega)]
    have HM := Lib.hid hm
    have HOWN := hide hown
    have HAPT := hide hapt
    have HXS := hide hxs
    obtain ⟨lb, lo, rfl, hlb, hcc⟩ := (unhide HL).at_ (by omega)
    obtain ⟨la, lc, hlc, hlr⟩ := hcc i hil
    have p1 : (i : Int) ≤ (cv : Int) := by omega
    have p3 : 0 ≤ (i : Int) := by omega
    clear ho hm hV hown hapt hxs hcc hnn htl
    go_wp2_with fail
    go_loopw [5] (fun kv wr => kv = .int .i64 (i : Int) ∧ Qt wo wr) (fun _ _ => 0)
    case atStart => exact ⟨rfl, Qt.refl _⟩
    case round =>
     obtain ⟨rfl, hq⟩ := hrel
     rename World => wq
     have hbq := hq.below wo.heap.size
     by_cases h0 : i = 0
     · have hz : ¬ (0 : Int) < (i : Int) := by omega
       have hz2 : ¬ 0 < i := by omega
       clear h0
       go_upto_region 6 with fail
       go_quiet (fail)
       rename Nat => nq
       obtain ⟨w1, hw1⟩ : ∃ z, z = wq.drewN nq := ⟨_, rfl⟩
       rw [← hw1]
       have q1 : Qt wo w1 := hq.trans ⟨nq, hw1⟩
       have b1 := q1.below wo.heap.size
       have z1 := b1.size
       clear hw1
       obtain ⟨w2, hw2⟩ : ∃ z, z = w1.alloc (.cells #[] 24) := ⟨_, rfl⟩
       have b2 : Below w1.heap.size w1 w2 := by rw [hw2]; exact (Below.refl _ _).alloc (Nat.le_refl _) _
       have hr2 : w2.ownsRow w1.heap.size 24 1 (.slice (some ⟨w1.heap.size, 0, none⟩) 0 0) 0 [] := by rw [hw2]; exact World.ownsRow_made w1 #[] 0 (Nat.le_refl _) (Nat.zero_le _) (by simp)
       have z2 := b2.size
       have b2' := b1.trans (b2.mono z1)
       have hc2 : ∀ j, j < i → w2.cell? ⟨gv, 0 + j, none⟩ = some (hdAt hs j).val := fun j hj => by rw [Nat.zero_add]; exact unhide HCE w2 b2' j hj
       have HW2 := Lib.hid hw2
       clear hw2
       go_upto_region 9 with (at_builtin; rw [← HW2.out]; refine wpList_append_hdrs rfl (.tmp 33) (.tmp 36) rfl (v := .slice (some ⟨w1.heap.size, 0, none⟩) 0 0) (n := 0) (vs := []) (B := w1.heap.size) rfl hr2 (by simp) gv 0 i cv hs rfl hhl hc2 (by omega) z2 ?_; intro v3 w3 r3 n3 g3 _)
       have b3 : Below w1.heap.size w1 w3 := b2.grown g3 z2 (fun q hq => by simp [Value.ownBlock] at hq; omega)
       have hr3 : w3.ownsRow w1.heap.size 24 1 v3 i (hs.map Hdr.val) := by simpa using r3
       have z3 := b3.size
       have b3' := b1.trans (b3.mono z1)
       have HG3 := hide (fun q hq => (hr3.lt q hq).2)
       clear r3 g3 hr2 hc2
       have gl3 := (hb.trans (b3'.mono hsz)).cell (p := ⟨lb, lo + i, none⟩) hlb |>.trans hlc
       have HOW := hide (l00Own_any la lc (nthL L i) w3 (hlr.below (hb.trans (b3'.mono hsz))))
       have hlen := hlr.len
       obtain ⟨x, hx⟩ : ∃ x, x = nthL L i := ⟨_, rfl⟩
       rw [← hx] at gl3 HOW hlen
       have HX := Lib.hid hx
       clear hx
       go_wp2_with (first | (at_builtin; fail) | fail)
       refine (unhide HOW).mono ?_
       rintro e w4 ⟨v4, rfl, o4, b4⟩
       obtain ⟨a4, c4, rfl, _, _⟩ := o4.form
       have z4 := b4.size
       obtain ⟨w5, hw5⟩ : ∃ z, z = w4.alloc (.cells #[.slice a4 x.length c4] 24) := ⟨_, rfl⟩
       have b5 : Below w4.heap.size w4 w5 := by rw [hw5]; exact (Below.refl _ _).alloc (Nat.le_refl _) _
       have k5 : Blk w5 w4.heap.size 24 #[.slice a4 x.length c4] := by rw [hw5]; exact Blk.new _ _ _ rfl
       have b35 : Below w3.heap.size w3 w5 := b4.trans (b5.mono z4)
       have z5 := b35.size
       have hr5 := ownsRow_below hr3 b35 (Nat.le_refl _)
       obtain ⟨hd, hhd⟩ : ∃ hd : Hdr, hd = ⟨a4, c4, x⟩ := ⟨_, rfl⟩
       have hc5 : ∀ j, j < 1 → w5.cell? ⟨w4.heap.size, 0 + j, none⟩ = some (hdAt [hd] j).val := fun j hj => by
        obtain rfl : j = 0 := by omega
        rw [hhd]
        exact k5.cell 0
       have HW5 := Lib.hid hw5
       have HHD := Lib.hid hhd
       have O4 := hide o4
       clear hw5 hhd o4 hr3 k5
       go_upto_region 10 with (at_builtin; rw [← HW5.out]; refine wpList_append_hdrs rfl (.tmp 38) (.tmp 44) rfl (v := v3) (n := i) (vs := hs.map Hdr.val) (B := w1.heap.size) rfl hr5 n3 w4.heap.size 0 1 1 [hd] rfl rfl hc5 (by omega) (by omega) ?_; intro v6 w6 r6 n6 g6 _)
       have hg3 : ∀ q, v3.ownBlock = some q → w1.heap.size ≤ q ∧ q < w3.heap.size := fun q hq => ⟨(hr5.lt q hq).1, unhide HG3 q hq⟩
       have b6 : Below w1.heap.size w1 w6 := (b3.trans (b35.mono z3)).grown g6 (by omega) (fun q hq => (hg3 q hq).1)
       have z6 := b6.size
       have b6' := b1.trans (b6.mono z1)
       have o6 : Own w6 w3.heap.size (.slice a4 x.length c4) x := ((unhide O4).below b5 (Nat.le_refl _)).grow g6 (by
        cases e : Value.ownBlock (.slice a4 x.length c4) with
        | none => exact .inl rfl
        | some b =>
         refine .inr fun e2 => ?_
         have h1 := ((unhide O4).lt b e).1
         have h2 := (hg3 b e2.symm).2
         omega)
       have O6 := hide o6
       have R6 := hide r6
       clear g6 hr5 hc5 o6 r6
       have hg6 : ∀ q, v6.ownBlock = some q → w1.heap.size ≤ q := fun q hq => ((unhide R6).lt q hq).1
       have HF7 := hide (show ∀ W v', W.ownsRow w1.heap.size 24 1 v' (i + 1 + 0) ((hs.map Hdr.val ++ [hd].map Hdr.val) ++ ([] : List Hdr).map Hdr.val) → w6.grownBy W v6.ownBlock → OwnS W w.heap.size v' (L.take (i + 1)) from fun W v' hr hg => by
        rw [List.map_nil, List.append_nil, Nat.add_zero] at hr
        have e1 : (hs ++ [hd]).map Hdr.xs = L.take (i + 1) := by
         have ht : L.take (i + 1) = L.take i ++ [nthL L i] := by rw [List.take_add_one, List.getElem?_eq_getElem hil, nthL_lt hil]; rfl
         rw [List.map_append, HM.out, HHD.out, ht, HX.out]; rfl
        have el : (hs ++ [hd]).length = i + 1 := by rw [List.length_append, hhl]; rfl
        have hbb : Below wo.heap.size wo W := (b1.trans ((b6.grown hg z6 (fun q hq => hg6 q hq)).mono z1))
        rw [← e1]
        refine OwnS.of_hdrs (by omega) ?_ (fun k hk => ?_) ?_
        · rw [el, List.map_append]
          obtain ⟨h1, h2⟩ := hr
          refine ⟨h1, ?_⟩
          rcases h2 with h2 | ⟨g', cap, cur, e, hB', r⟩
          · exact .inl h2
          · exact .inr ⟨g', cap, cur, e, by omega, r⟩
        · rcases List.mem_append.1 hk with hk | hk
          · exact (unhide HOWN k hk).below hbb (Nat.le_refl _)
          · rw [List.mem_singleton] at hk
            subst hk
            rw [HHD.out]
            exact ((unhide O6).grow hg (Own.apart_row (unhide R6) (unhide O6))).mono (by omega)
        · rw [List.pairwise_append]
          refine ⟨unhide HAPT, List.pairwise_singleton _ _, fun k hk k' hk' b hb1 hb2 => ?_⟩
          rw [List.mem_singleton] at hk'
          subst hk'
          have h1 := ((unhide HOWN k hk).lt b hb1).2
          rw [HHD.out] at hb2
          have h2 := ((unhide O6).lt b hb2).1
          omega)
       by_cases hcp : cv = i
       · have hcc : (cv = i) = True := eq_true hcp
         have hc0 : ∀ j, j < 0 → w6.cell? ⟨gv, 0 + j, none⟩ = some (hdAt ([] : List Hdr) j).val := fun j hj => by omega
         go_wp2_with (at_builtin; refine wpList_append_hdrs rfl (.tmp 46) (.tmp 49) rfl (v := v6) (n := i + 1) (vs := hs.map Hdr.val ++ [hd].map Hdr.val) (B := w1.heap.size) rfl (unhide R6) n6 gv 0 0 0 [] rfl rfl hc0 (by omega) (by omega) ?_; intro v7 w7 r7 n7 g7 _)
         have b7 : Below w1.heap.size w1 w7 := b6.grown g7 z6 (fun q hq => hg6 q hq)
         have b7' := b1.trans (b7.mono z1)
         have hnx := unhide HF7 w7 v7 r7 g7
         have HNX := hide hnx
         have N7 := hide n7
         have hbw := hb.trans (b7'.mono hsz)
         clear hnx r7 g7 n7
         go_roundw
         case rel => exact ⟨i + 1, by go_num, by omega, unhide N7, unhide HNX, hbw⟩
         case measure => simp only [intOf]; omega
       · have hne : (cv = i) = False := eq_false hcp
         have hc0 : ∀ j, j < 0 → w6.cell? ⟨gv, i + j, none⟩ = some (hdAt ([] : List Hdr) j).val := fun j hj => by omega
         go_wp2_with (at_builtin; refine wpList_append_hdrs rfl (.tmp 46) (.tmp 49) rfl (v := v6) (n := i + 1) (vs := hs.map Hdr.val ++ [hd].map Hdr.val) (B := w1.heap.size) rfl (unhide R6) n6 gv i 0 (cv - i) [] rfl rfl hc0 (by omega) (by omega) ?_; intro v7 w7 r7 n7 g7 _)
         have b7 : Below w1.heap.size w1 w7 := b6.grown g7 z6 (fun q hq => hg6 q hq)
         have b7' := b1.trans (b7.mono z1)
         have hnx := unhide HF7 w7 v7 r7 g7
         have HNX := hide hnx
         have N7 := hide n7
         have hbw := hb.trans (b7'.mono hsz)
         clear hnx r7 g7 n7
         go_roundw
         case rel => exact ⟨i + 1, by go_num, by omega, unhide N7, unhide HNX, hbw⟩
         case measure => simp only [intOf]; omega
     · obtain ⟨m1, rfl⟩ : ∃ m1, i = m1 + 1 := ⟨i - 1, by omega⟩
       have g0 := unhide HCE wq hbq m1 (by omega)
       have hx0 := unhide HXS m1 (by omega)
       have gl := ((hb.trans (hbq.mono hsz)).cell (p := ⟨lb, lo + (m1 + 1), none⟩) hlb).trans hlc
       have hcs := fun n => compareS_any (hdAt hs m1).a la (hdAt hs m1).c lc (hdAt hs m1).xs (nthL L (m1 + 1)) (wq.drewN n) (((unhide HRD m1).below hbq).drewN n) ((hlr.below (hb.trans (hbq.mono hsz))).drewN n)
       have hlt := unhide HS m1 (m1 + 1) (by omega) hil
       rw [← hx0] at hlt
       obtain ⟨z, hz⟩ : ∃ z, z = cmpL (hdAt hs m1).xs (nthL L (m1 + 1)) := ⟨_, rfl⟩
       have hz0 : z < 0 := by rw [hz]; exact hlt
       rw [← hz] at hcs
       have hrl := (unhide HRD m1).len
       have hrl2 := hlr.len
       obtain ⟨hk, hhk⟩ : ∃ hk, hk = hdAt hs m1 := ⟨_, rfl⟩
       obtain ⟨row, hrow⟩ : ∃ row, row = nthL L (m1 + 1) := ⟨_, rfl⟩
       rw [← hhk] at g0 hcs hrl
       rw [← hrow] at gl hcs hrl2
       have g0 : wq.cell? ⟨gv, m1, none⟩ = some (.slice hk.a hk.xs.length hk.c) := g0
       have HCS := hide hcs
       have hw4 : IntKind.i64.wrap (m1 : Int) = (m1 : Int) := IntWalk.i64_in _ (by omega)
       have i0 : 0 ≤ (m1 : Int) + 1 := by omega
       have i1 : (m1 : Int) + 1 < (L.length : Int) := by omega
       have i2 : (m1 : Int) < (m1 : Int) + 1 := by omega
       have i3 : (0 : Int) < (m1 : Int) + 1 := by omega
       have i4 : m1 < L.length := by omega
       have i5 : m1 < m1 + 1 := by omega
       have i6 : ¬ 0 < z := by omega
       clear hcs hlt hz hx0 hhk hrow h0
       go_upto_region 6 with fail
       go_quiet ((go_at_call 39; exact Calls.quiet_of (unhide HCS _)))
       clear g0 gl hw4 i1 i2 i3 i4 i5 i6 HCS hz0 hrl hrl2
       rename Nat => nq
       obtain ⟨w1, hw1⟩ : ∃ z, z = wq.drewN nq := ⟨_, rfl⟩
       rw [← hw1]
       have q1 : Qt wo w1 := hq.trans ⟨nq, hw1⟩
       have b1 := q1.below wo.heap.size
       have z1 := b1.size
       clear hw1
       obtain ⟨w2, hw2⟩ : ∃ z, z = w1.alloc (.cells #[] 24) := ⟨_, rfl⟩
       have b2 : Below w1.heap.size w1 w2 := by rw [hw2]; exact (Below.refl _ _).alloc (Nat.le_refl _) _
       have hr2 : w2.ownsRow w1.heap.size 24 1 (.slice (some ⟨w1.heap.size, 0, none⟩) 0 0) 0 [] := by rw [hw2]; exact World.ownsRow_made w1 #[] 0 (Nat.le_refl _) (Nat.zero_le _) (by simp)
       have z2 := b2.size
       have b2' := b1.trans (b2.mono z1)
       have hc2 : ∀ j, j < (m1 + 1) → w2.cell? ⟨gv, 0 + j, none⟩ = some (hdAt hs j).val := fun j hj => by rw [Nat.zero_add]; exact unhide HCE w2 b2' j hj
       have HW2 := Lib.hid hw2
       clear hw2
       go_upto_region 9 with (at_builtin; rw [← HW2.out]; refine wpList_append_hdrs rfl (.tmp 33) (.tmp 36) rfl (v := .slice (some ⟨w1.heap.size, 0, none⟩) 0 0) (n := 0) (vs := []) (B := w1.heap.size) rfl hr2 (by simp) gv 0 (m1 + 1) cv hs rfl hhl hc2 (by omega) z2 ?_; intro v3 w3 r3 n3 g3 _)
       have b3 : Below w1.heap.size w1 w3 := b2.grown g3 z2 (fun q hq => by simp [Value.ownBlock] at hq; omega)
       have hr3 : w3.ownsRow w1.heap.size 24 1 v3 (m1 + 1) (hs.map Hdr.val) := by simpa using r3
       have z3 := b3.size
       have b3' := b1.trans (b3.mono z1)
       have HG3 := hide (fun q hq => (hr3.lt q hq).2)
       clear r3 g3 hr2 hc2
       have gl3 := (hb.trans (b3'.mono hsz)).cell (p := ⟨lb, lo + (m1 + 1), none⟩) hlb |>.trans hlc
       have HOW := hide (l00Own_any la lc (nthL L (m1 + 1)) w3 (hlr.below (hb.trans (b3'.mono hsz))))
       have hlen := hlr.len
       obtain ⟨x, hx⟩ : ∃ x, x = nthL L (m1 + 1) := ⟨_, rfl⟩
       rw [← hx] at gl3 HOW hlen
       have HX := Lib.hid hx
       clear hx
       go_wp2_with (first | (at_builtin; fail) | fail)
       refine (unhide HOW).mono ?_
       rintro e w4 ⟨v4, rfl, o4, b4⟩
       obtain ⟨a4, c4, rfl, _, _⟩ := o4.form
       have z4 := b4.size
       obtain ⟨w5, hw5⟩ : ∃ z, z = w4.alloc (.cells #[.slice a4 x.length c4] 24) := ⟨_, rfl⟩
       have b5 : Below w4.heap.size w4 w5 := by rw [hw5]; exact (Below.refl _ _).alloc (Nat.le_refl _) _
       have k5 : Blk w5 w4.heap.size 24 #[.slice a4 x.length c4] := by rw [hw5]; exact Blk.new _ _ _ rfl
       have b35 : Below w3.heap.size w3 w5 := b4.trans (b5.mono z4)
       have z5 := b35.size
       have hr5 := ownsRow_below hr3 b35 (Nat.le_refl _)
       obtain ⟨hd, hhd⟩ : ∃ hd : Hdr, hd = ⟨a4, c4, x⟩ := ⟨_, rfl⟩
       have hc5 : ∀ j, j < 1 → w5.cell? ⟨w4.heap.size, 0 + j, none⟩ = some (hdAt [hd] j).val := fun j hj => by
        obtain rfl : j = 0 := by omega
        rw [hhd]
        exact k5.cell 0
       have HW5 := Lib.hid hw5
       have HHD := Lib.hid hhd
       have O4 := hide o4
       clear hw5 hhd o4 hr3 k5
       go_upto_region 10 with (at_builtin; rw [← HW5.out]; refine wpList_append_hdrs rfl (.tmp 38) (.tmp 44) rfl (v := v3) (n := (m1 + 1)) (vs := hs.map Hdr.val) (B := w1.heap.size) rfl hr5 n3 w4.heap.size 0 1 1 [hd] rfl rfl hc5 (by omega) (by omega) ?_; intro v6 w6 r6 n6 g6 _)
       have hg3 : ∀ q, v3.ownBlock = some q → w1.heap.size ≤ q ∧ q < w3.heap.size := fun q hq => ⟨(hr5.lt q hq).1, unhide HG3 q hq⟩
       have b6 : Below w1.heap.size w1 w6 := (b3.trans (b35.mono z3)).grown g6 (by omega) (fun q hq => (hg3 q hq).1)
       have z6 := b6.size
       have b6' := b1.trans (b6.mono z1)
       have o6 : Own w6 w3.heap.size (.slice a4 x.length c4) x := ((unhide O4).below b5 (Nat.le_refl _)).grow g6 (by
        cases e : Value.ownBlock (.slice a4 x.length c4) with
        | none => exact .inl rfl
        | some b =>
         refine .inr fun e2 => ?_
         have h1 := ((unhide O4).lt b e).1
         have h2 := (hg3 b e2.symm).2
         omega)
       have O6 := hide o6
       have R6 := hide r6
       clear g6 hr5 hc5 o6 r6
       have hg6 : ∀ q, v6.ownBlock = some q → w1.heap.size ≤ q := fun q hq => ((unhide R6).lt q hq).1
       have HF7 := hide (show ∀ W v', W.ownsRow w1.heap.size 24 1 v' ((m1 + 1) + 1 + 0) ((hs.map Hdr.val ++ [hd].map Hdr.val) ++ ([] : List Hdr).map Hdr.val) → w6.grownBy W v6.ownBlock → OwnS W w.heap.size v' (L.take ((m1 + 1) + 1)) from fun W v' hr hg => by
        rw [List.map_nil, List.append_nil, Nat.add_zero] at hr
        have e1 : (hs ++ [hd]).map Hdr.xs = L.take ((m1 + 1) + 1) := by
         have ht : L.take ((m1 + 1) + 1) = L.take (m1 + 1) ++ [nthL L (m1 + 1)] := by rw [List.take_add_one, List.getElem?_eq_getElem hil, nthL_lt hil]; rfl
         rw [List.map_append, HM.out, HHD.out, ht, HX.out]; rfl
        have el : (hs ++ [hd]).length = (m1 + 1) + 1 := by rw [List.length_append, hhl]; rfl
        have hbb : Below wo.heap.size wo W := (b1.trans ((b6.grown hg z6 (fun q hq => hg6 q hq)).mono z1))
        rw [← e1]
        refine OwnS.of_hdrs (by omega) ?_ (fun k hk => ?_) ?_
        · rw [el, List.map_append]
          obtain ⟨h1, h2⟩ := hr
          refine ⟨h1, ?_⟩
          rcases h2 with h2 | ⟨g', cap, cur, e, hB', r⟩
          · exact .inl h2
          · exact .inr ⟨g', cap, cur, e, by omega, r⟩
        · rcases List.mem_append.1 hk with hk | hk
          · exact (unhide HOWN k hk).below hbb (Nat.le_refl _)
          · rw [List.mem_singleton] at hk
            subst hk
            rw [HHD.out]
            exact ((unhide O6).grow hg (Own.apart_row (unhide R6) (unhide O6))).mono (by omega)
        · rw [List.pairwise_append]
          refine ⟨unhide HAPT, List.pairwise_singleton _ _, fun k hk k' hk' b hb1 hb2 => ?_⟩
          rw [List.mem_singleton] at hk'
          subst hk'
          have h1 := ((unhide HOWN k hk).lt b hb1).2
          rw [HHD.out] at hb2
          have h2 := ((unhide O6).lt b hb2).1
          omega)
       by_cases hcp : cv = (m1 + 1)
       · have hcc : (cv = (m1 + 1)) = True := eq_true hcp
         have hc0 : ∀ j, j < 0 → w6.cell? ⟨gv, 0 + j, none⟩ = some (hdAt ([] : List Hdr) j).val := fun j hj => by omega
         go_wp2_with (at_builtin; refine wpList_append_hdrs rfl (.tmp 46) (.tmp 49) rfl (v := v6) (n := (m1 + 1) + 1) (vs := hs.map Hdr.val ++ [hd].map Hdr.val) (B := w1.heap.size) rfl (unhide R6) n6 gv 0 0 0 [] rfl rfl hc0 (by omega) (by omega) ?_; intro v7 w7 r7 n7 g7 _)
         have b7 : Below w1.heap.size w1 w7 := b6.grown g7 z6 (fun q hq => hg6 q hq)
         have b7' := b1.trans (b7.mono z1)
         have hnx := unhide HF7 w7 v7 r7 g7
         have HNX := hide hnx
         have N7 := hide n7
         have hbw := hb.trans (b7'.mono hsz)
         clear hnx r7 g7 n7
         go_roundw
         case rel => exact ⟨m1 + 1 + 1, by go_num, by omega, unhide N7, unhide HNX, hbw⟩
         case measure => simp only [intOf]; omega
       · have hne : (cv = (m1 + 1)) = False := eq_false hcp
         have hc0 : ∀ j, j < 0 → w6.cell? ⟨gv, (m1 + 1) + j, none⟩ = some (hdAt ([] : List Hdr) j).val := fun j hj => by omega
         go_wp2_with (at_builtin; refine wpList_append_hdrs rfl (.tmp 46) (.tmp 49) rfl (v := v6) (n := (m1 + 1) + 1) (vs := hs.map Hdr.val ++ [hd].map Hdr.val) (B := w1.heap.size) rfl (unhide R6) n6 gv (m1 + 1) 0 (cv - (m1 + 1)) [] rfl rfl hc0 (by omega) (by omega) ?_; intro v7 w7 r7 n7 g7 _)
         have b7 : Below w1.heap.size w1 w7 := b6.grown g7 z6 (fun q hq => hg6 q hq)
         have b7' := b1.trans (b7.mono z1)
         have hnx := unhide HF7 w7 v7 r7 g7
         have HNX := hide hnx
         have N7 := hide n7
         have hbw := hb.trans (b7'.mono hsz)
         clear hnx r7 g7 n7
         go_roundw
         case rel => exact ⟨m1 + 1 + 1, by go_num, by omega, unhide N7, unhide HNX, hbw⟩
         case measure => simp only [intOf]; omega
  · have hie : i = L.length := by omega
    have hoo := ho.out
    rw [hie, List.take_length] at hoo
    have HOO := hide hoo
    clear hie hoo ho hnn
    go_wp2
    go_ret
    exact ⟨_, rfl, unhide HOO, hb⟩
end Go.Proofs.YtgfcbmflnldicaaGreat
namespace Go.Proofs.YtgfcbmflnldicaaGreat
open Go.RowKit
attribute [local go_sem ↓] Go.wp_at_zero Go.wp_at_succ
theorem ris_of {n : Int} {b : List Int} (hp : b.Pairwise (· < ·)) (hm : ∀ x ∈ b, 0 ≤ x ∧ x < n) : ris n b = true := ris_yes fun k hk => by
 have h1 := hm _ (nth_mem hk)
 refine ⟨h1.1, h1.2, fun h0 => ?_⟩
 rw [nth_lt hk, nth_lt (by omega)]
 exact List.pairwise_iff_getElem.1 hp (k - 1) k (by omega) hk (by omega)
theorem suppTo_pw (xs : List Int) (k : Nat) : (suppTo xs k).Pairwise (· < ·) := by
 rw [suppTo, List.pairwise_map]
 refine (List.pairwise_lt_range.filter _).imp fun h => ?_
 exact Int.ofNat_lt.2 h
theorem suppTo_mem {xs : List Int} {k : Nat} {x : Int} (h : x ∈ suppTo xs k) : 0 ≤ x ∧ x < k := by
 rw [suppTo, List.mem_map] at h
 obtain ⟨i, hi, rfl⟩ := h
 have := List.mem_range.1 (List.mem_filter.1 hi).1
 exact ⟨Int.natCast_nonneg i, Int.ofNat_lt.2 this⟩
theorem suppTo_wt (xs : List Int) : ∀ k, (suppTo xs k).length = wtTo xs k
 | 0 => rfl
 | k + 1 => by
  rw [wtTo, ← suppTo_wt xs k]
  by_cases h : nth xs k = 0
  · rw [if_pos h, suppTo_miss (by rw [h]; rfl)]
  · rw [if_neg h, suppTo_hit (by simpa using h), List.length_append]; rfl
theorem supW_okB {F : FD} {n : Nat} {m : List (List Int)} (h : GC F n m) {k : Int} (hk : 1 ≤ k) {x : List Int} (hx : x ∈ supW F n m k) : okB n x = true := by
 rw [supW, distL_mem, supps, List.mem_map] at hx
 obtain ⟨row, hr, rfl⟩ := hx
 obtain ⟨hr1, hr2⟩ := List.mem_filter.1 hr
 rw [decide_eq_true_eq] at hr2
 obtain ⟨j, hj, rfl⟩ := List.getElem_of_mem hr1
 have hj2 : j < F.n ^ m.length := by rw [wordsTo_len] at hj; exact hj
 have hl := (h.word_sp hj2).1
 rw [nthL_lt hj] at hl
 rw [okB_ris (by rw [suppTo_wt]; show 0 < wt _; omega)]
 refine ris_of (suppTo_pw _ _) fun x hx => ?_
 have := suppTo_mem hx
 rw [hl] at this
 exact this
def mkD (n : Int) (L : List (List Int)) : Int × List (List Int) × Int := if 128 < L.length then (0, [], 5) else (n, L, 0)
def ResD (w : World) (r : Int × List (List Int) × Int) (e : Ending) (w' : World) : Prop := ∃ v, e = .returned (.tuple #[.agg #[.int .i64 r.1, v], .int .i64 r.2.2]) ∧ OwnS w' w.heap.size v r.2.1 ∧ Below w.heap.size w w'
noncomputable def dwRes (p d : Int) (xs : List Int) (m : List (List Int)) (k : Int) : Int × List (List Int) × Int :=
 if okC p d xs m = true then (if inB k 1 (nthL m 0).length = true then (if supW (fdR p d xs) (nthL m 0).length m k = [] then (0, [], 3) else mkD (nthL m 0).length (supW (fdR p d xs) (nthL m 0).length m k)) else (0, [], 2)) else (0, [], 1)
theorem Below.set2 {B : Nat} {w W : World} {g : Nat} (h : Below B w W) (hg : B ≤ g) (a b : Value) : Below B w ((W.setCell ⟨g, 0, none⟩ a).setCell ⟨g, 1, none⟩ b) := (h.setCell hg _).setCell hg _
theorem OwnS.set2 {w : World} {B g : Nat} {v : Value} {xss : List (List Int)} (h : OwnS w B v xss) (hg : g < B) (a b : Value) : OwnS ((w.setCell ⟨g, 0, none⟩ a).setCell ⟨g, 1, none⟩ b) B v xss := by
 have key : ∀ (W : World) (i : Nat) (x : Value), Kp W (W.setCell ⟨g, i, none⟩ x) B W.heap.size := fun W i x => ⟨by simp, fun q h1 _ => Below.heap_setCell W _ _ q (by show q ≠ g; omega)⟩
 exact ((((h.toH.kp (key _ _ _)).own).toH.kp (key _ _ _)).own)
theorem l10Make_any (n : Nat) (ra : Option Addr) (rc : Nat) (L : List (List Int)) (w : World) (hL : RdS w ra L) (hs : L.Pairwise LtL) (hl : L.length ≤ 4096) (hn1 : 1 ≤ n) (hn2 : n ≤ 32) (hB : ∀ k, k < L.length → okB n (nthL L k) = true) :
    Calls Tryz.prog 64 #[.int .i64 n, .slice ra L.length rc] w (ResD w (mkD n L)) := by
 obtain ⟨W0, hW0⟩ : ∃ z, z = w.alloc (.cells #[.int .i64 0, .slice none 0 0] 47) := ⟨_, rfl⟩
 have b0 : Below w.heap.size w W0 := by rw [hW0]; exact (Below.refl _ _).alloc (Nat.le_refl _) _
 have k0 : Blk W0 w.heap.size 47 #[.int .i64 0, .slice none 0 0] := by rw [hW0]; exact Blk.new _ _ _ rfl
 have z0 : w.heap.size < W0.heap.size := k0.lt
 have HW := Lib.hid hW0
 have hL0 := hL.below b0
 have HL := hide hL0
 have HB := hide hB
 have HSO := hide (fun W (h : Below W0.heap.size W0 W) => l10Sort_any ra rc L W (hL0.below h) hs hl)
 clear hW0 hL hL0 hB hs
 by_cases hlen : 128 < L.length
 · rw [show mkD n L = (0, [], 5) from if_pos hlen]
   have hl2 : (128 : Int) < (L.length : Int) := by omega
   go_enter Tryz.func64, Tryz.ntmps64
   go_upto_region 1 with fail
   rw [← HW.out]
   go_wp2_with fail
   go_loopw [6] (fun iv wr => ∃ i : Nat, iv = .int .i64 i ∧ i ≤ L.length ∧ Qt W0 wr) (fun iv _ => L.length - (intOf iv).toNat)
   case atStart => exact ⟨0, rfl, Nat.zero_le _, Qt.refl _⟩
   case round =>
    obtain ⟨i, rfl, hi, hq⟩ := hrel
    have hb := hq.below W0.heap.size
    by_cases hil : i < L.length
    · obtain ⟨b1, o1, rfl, hb1, hc⟩ := (unhide HL).at_ (by omega)
      obtain ⟨ai, ci, h3, hri⟩ := hc i hil
      have g1 := (hb.cell (p := ⟨b1, o1 + i, none⟩) hb1).trans h3
      have hbk := l10Block_any ai ci (nthL L i) n wr (hri.below hb) (by omega) (by omega)
      rw [unhide HB i hil] at hbk
      have hrl := hri.len
      obtain ⟨row, hrow⟩ : ∃ row, row = nthL L i := ⟨_, rfl⟩
      rw [← hrow] at g1 hbk hrl
      have HBK := hide hbk
      clear hc h3 hri hbk hrow
      go_wp2_with fail
      refine (unhide HBK).mono ?_
      rintro e w1 ⟨rfl, q1⟩
      go_wp2
      go_roundw
      case rel => exact ⟨i + 1, by go_num, by omega, hq.trans q1⟩
      case measure => simp only [intOf]; omega
    · have k1 := k0.below hb z0
      have f0 := k1.cell 0
      have f1 := k1.cell 1
      have g0 := k1.frozen 0
      have g1 := k1.frozen 1
      go_wp2
      refine bodyPost_ret (results_cell_tmp_row rfl _ _ w.heap.size 47 #[.int .i64 0, .slice none 0 0] _ rfl ((k1.set_ 0 _).set_ 1 _) Tryz.underlying47 rfl (by kernel_rfl)) rfl ?_
      exact ⟨_, rfl, OwnS.nil _ _, Below.set2 (b0.trans (hb.mono (Nat.le_of_lt z0))) (by omega) _ _⟩
 · rw [show mkD n L = ((n : Int), L, 0) from if_neg hlen]
   have hl2 : ¬ (128 : Int) < (L.length : Int) := by omega
   go_enter Tryz.func64, Tryz.ntmps64
   go_upto_region 1 with fail
   rw [← HW.out]
   go_wp2_with fail
   go_loopw [6] (fun iv wr => ∃ i : Nat, iv = .int .i64 i ∧ i ≤ L.length ∧ Qt W0 wr) (fun iv _ => L.length - (intOf iv).toNat)
   case atStart => exact ⟨0, rfl, Nat.zero_le _, Qt.refl _⟩
   case round =>
    obtain ⟨i, rfl, hi, hq⟩ := hrel
    have hb := hq.below W0.heap.size
    by_cases hil : i < L.length
    · obtain ⟨b1, o1, rfl, hb1, hc⟩ := (unhide HL).at_ (by omega)
      obtain ⟨ai, ci, h3, hri⟩ := hc i hil
      have g1 := (hb.cell (p := ⟨b1, o1 + i, none⟩) hb1).trans h3
      have hbk := l10Block_any ai ci (nthL L i) n wr (hri.below hb) (by omega) (by omega)
      rw [unhide HB i hil] at hbk
      have hrl := hri.len
      obtain ⟨row, hrow⟩ : ∃ row, row = nthL L i := ⟨_, rfl⟩
      rw [← hrow] at g1 hbk hrl
      have HBK := hide hbk
      clear hc h3 hri hbk hrow
      go_wp2_with fail
      refine (unhide HBK).mono ?_
      rintro e w1 ⟨rfl, q1⟩
      go_wp2
      go_roundw
      case rel => exact ⟨i + 1, by go_num, by omega, hq.trans q1⟩
      case measure => simp only [intOf]; omega
    · have HSO2 := hide (unhide HSO wr hb)
      go_wp2_with fail
      refine (unhide HSO2).mono ?_
      rintro e w3 ⟨v3, rfl, o3, b3⟩
      obtain ⟨a3, c3, rfl, _⟩ := o3.form
      have hszr := hb.size
      have b3' := hb.trans (b3.mono hszr)
      have k1 := k0.below b3' z0
      have f0 := k1.cell 0
      have f1 := k1.cell 1
      have g0 := k1.frozen 0
      have g1 := k1.frozen 1
      go_wp2
      refine bodyPost_ret (results_cell_tmp_row rfl _ _ w.heap.size 47 #[.int .i64 n, .slice a3 L.length c3] _ rfl ((k1.set_ 0 _).set_ 1 _) Tryz.underlying47 rfl (by kernel_rfl)) rfl ?_
      exact ⟨_, rfl, (o3.set2 (by omega) _ _).mono (by omega), Below.set2 (b0.trans (b3'.mono (Nat.le_of_lt z0))) (by omega) _ _⟩
theorem specDW_any (p d : Int) (a : Option Addr) (c : Nat) (xs : List Int) (ra : Option Addr) (rc : Nat) (m : List (List Int)) (k : Int) (w : World) (hx : Rd w a xs) (hm : RdS w ra m) : Calls Tryz.prog 17 #[.agg #[.int .i64 p, .int .i64 d, .slice a xs.length c, .slice ra m.length rc], .int .i64 k] w (ResD w (dwRes p d xs m k)) := by
 have hml := hm.len
 obtain ⟨W0, hW0⟩ : ∃ z, z = (w.alloc (.cells #[.int .i64 p, .int .i64 d, .slice a xs.length c, .slice ra m.length rc] 52)).alloc (.cells #[.int .i64 0, .slice none 0 0] 47) := ⟨_, rfl⟩
 have b0 : Below w.heap.size w W0 := by rw [hW0]; exact ((Below.refl _ _).alloc (Nat.le_refl _) _).alloc (by simp) _
 have kC : Blk W0 w.heap.size 52 #[.int .i64 p, .int .i64 d, .slice a xs.length c, .slice ra m.length rc] := by rw [hW0]; exact (Blk.new _ _ _ rfl).alloc _
 have k0 : Blk W0 (w.heap.size + 1) 47 #[.int .i64 0, .slice none 0 0] := by rw [hW0]; exact Blk.new _ _ _ (by simp)
 have z0 : w.heap.size + 1 < W0.heap.size := k0.lt
 have hP : PC W0 w.heap.size p d a c xs ra rc m := ⟨⟨kC.cell 0, kC.cell 1, kC.cell 2, hx.below b0⟩, kC.cell 3, hm.below b0⟩
 have HW := Lib.hid hW0
 have hA := l20Ask_any w.heap.size p d a c xs ra rc m k W0 hP
 clear hW0
 unfold dwRes
 unfold askV at hA
 cases hk : okC p d xs m with
 | false =>
  rw [hk, if_neg (by simp)] at hA
  have HA := hide hA
  rw [if_neg (by simp)]
  clear hA hk hx hm hP
  go_enter Tryz.func17, Tryz.ntmps17
  go_wp2_with fail
  rw [← HW.out]
  refine (unhide HA).mono ?_
  rintro e w1 ⟨rfl, b1⟩
  have k1 := k0.below b1 z0
  have f0 := k1.cell 0
  have f1 := k1.cell 1
  have g0 := k1.frozen 0
  have g1 := k1.frozen 1
  go_wp2
  refine bodyPost_ret (results_cell_tmp_row rfl _ _ (w.heap.size + 1) 47 #[.int .i64 0, .slice none 0 0] _ rfl ((k1.set_ 0 _).set_ 1 _) Tryz.underlying47 rfl (by kernel_rfl)) rfl ?_
  exact ⟨_, rfl, OwnS.nil _ _, Below.set2 (b0.trans (b1.mono (by omega))) (by omega) _ _⟩
 | true =>
  rw [hk, if_pos rfl] at hA
  rw [if_pos rfl]
  obtain ⟨F, n, rfl, rfl, rfl, hC⟩ := okC_gc hk
  rw [hC.hn] at hA
  rw [fdR_eq, hC.hn]
  cases hin : inB k 1 n with
  | false =>
   rw [hin, if_neg (by simp)] at hA
   rw [if_neg (by simp)]
   have HA := hide hA
   clear hA hk hx hm hin hP
   go_enter Tryz.func17, Tryz.ntmps17
   go_wp2_with fail
   rw [← HW.out]
   refine (unhide HA).mono ?_
   rintro e w1 ⟨rfl, b1⟩
   have k1 := k0.below b1 z0
   have f0 := k1.cell 0
   have f1 := k1.cell 1
   have g0 := k1.frozen 0
   have g1 := k1.frozen 1
   go_wp2
   refine bodyPost_ret (results_cell_tmp_row rfl _ _ (w.heap.size + 1) 47 #[.int .i64 0, .slice none 0 0] _ rfl ((k1.set_ 0 _).set_ 1 _) Tryz.underlying47 rfl (by kernel_rfl)) rfl ?_
   exact ⟨_, rfl, OwnS.nil _ _, Below.set2 (b0.trans (b1.mono (by omega))) (by omega) _ _⟩
  | true =>
   rw [hin, if_pos rfl] at hA
   rw [if_pos rfl]
   have HA := hide hA
   have hk1 := (inB_true.1 hin).1
   have hm1 := hC.m1
   have hm0 : 0 < m.length := by omega
   have hn1 := hC.n1
   have hn32 := hC.n32
   have HSU := hide (fun W (h : Below W0.heap.size W0 W) => l20Supports_any w.heap.size F ra rc m n k W ((hP.1.below h).pf) (hP.below h).2.1 (hP.below h).2.2 hC)
   have hblk : ∀ j, j < (supW F n m k).length → okB n (nthL (supW F n m k) j) = true := fun j hj => supW_okB hC hk1 (by rw [nthL_lt hj]; exact List.getElem_mem hj)
   have hstr : (supW F n m k).Pairwise LtL := distL_strict _
   have hsl : (supW F n m k).length ≤ 4096 := by
    have h1 := distL_len (supps (wordsTo F n m m.length) k)
    have h2 := supps_len (wordsTo F n m m.length) k
    have h3 := capTo_eq (by have := hC.good.ok.n_bd; omega) hC.cap
    have h4 := hC.cap
    rw [h3, ← Int.natCast_pow] at h4
    rw [wordsTo_len] at h2
    exact Nat.le_trans h1 (by omega)
   obtain ⟨gb, ob, ai, ci, rfl, hro, hgb⟩ := hP.row0 hm0
   rw [hC.hn] at hro
   have hc3 := hP.2.1
   have zC := kC.lt
   have HC3 := hide (show ∀ W, Below W0.heap.size W0 W → W.cell? ⟨w.heap.size, 3, none⟩ = some (.slice (some ⟨gb, ob, none⟩) m.length rc) ∧ W.cell? ⟨gb, ob, none⟩ = some (.slice ai n ci) from fun W h => ⟨(h.cell (p := ⟨w.heap.size, 3, none⟩) zC).trans hc3, (h.cell (p := ⟨gb, ob, none⟩) hgb).trans hro⟩)
   obtain ⟨L, hL⟩ : ∃ L, L = supW F n m k := ⟨_, rfl⟩
   rw [← hL] at hblk hstr hsl ⊢
   simp only [← hL] at HSU
   have HMK := hide (fun ra rc W (hr : RdS W ra L) => l10Make_any n ra rc L W hr hstr hsl hn1 hn32 hblk)
   clear hA hk hx hm hin hP hC hL hblk hstr hro hc3
   by_cases hL0 : L.length = 0
   · have hLe : L = [] := List.eq_nil_of_length_eq_zero hL0
     subst hLe
     rw [if_pos rfl]
     go_enter Tryz.func17, Tryz.ntmps17
     go_wp2_with fail
     rw [← HW.out]
     refine (unhide HA).mono ?_
     rintro e w1 ⟨rfl, b1⟩
     go_wp2_with fail
     refine (unhide HSU _ b1).mono ?_
     rintro e w3 ⟨v3, rfl, o3, b3⟩
     obtain ⟨a3, c3, rfl, r3⟩ := o3.form
     have z1 := b1.size
     have b3' := b1.trans (b3.mono z1)
     clear o3
     have k1 := k0.below b3' z0
     have f0 := k1.cell 0
     have f1 := k1.cell 1
     have g0 := k1.frozen 0
     have g1 := k1.frozen 1
     go_wp2
     refine bodyPost_ret (results_cell_tmp_row rfl _ _ (w.heap.size + 1) 47 #[.int .i64 0, .slice none 0 0] _ rfl ((k1.set_ 0 _).set_ 1 _) Tryz.underlying47 rfl (by kernel_rfl)) rfl ?_
     exact ⟨_, rfl, OwnS.nil _ _, Below.set2 (b0.trans (b3'.mono (by omega))) (by omega) _ _⟩
   · have hne : ((L.length : Int) == 0) = false := by rw [beq_eq_false_iff_ne]; omega
     have hne2 : ¬ L = [] := by rintro rfl; simp at hL0
     rw [if_neg hne2]
     obtain ⟨R, hR⟩ : ∃ R, R = mkD n L := ⟨_, rfl⟩
     simp only [← hR] at HMK
     rw [← hR]
     obtain ⟨rp, ry, rz⟩ := R
     clear hR
     go_enter Tryz.func17, Tryz.ntmps17
     go_wp2_with fail
     rw [← HW.out]
     refine (unhide HA).mono ?_
     rintro e w1 ⟨rfl, b1⟩
     go_wp2_with fail
     refine (unhide HSU _ b1).mono ?_
     rintro e w3 ⟨v3, rfl, o3, b3⟩
     obtain ⟨a3, c3, rfl, r3⟩ := o3.form
     have z1 := b1.size
     have b3' := b1.trans (b3.mono z1)
     clear o3
     obtain ⟨f3, fr⟩ := unhide HC3 _ b3'
     have HM3 := hide (unhide HMK _ c3 w3 r3)
     clear r3
     go_wp2_with fail
     refine (unhide HM3).mono ?_
     rintro e w4 ⟨v4, rfl, o4, b4⟩
     simp only [] at o4 ⊢
     obtain ⟨a4, c4, rfl, _⟩ := o4.form
     have z3 := b3'.size
     have b4' := b3'.trans (b4.mono z3)
     have k1 := k0.below b4' z0
     clear f3 fr
     have f0 := k1.cell 0
     have f1 := k1.cell 1
     have g0 := k1.frozen 0
     have g1 := k1.frozen 1
     go_wp2
     refine bodyPost_ret (results_cell_tmp_row rfl _ _ (w.heap.size + 1) 47 #[.int .i64 rp, .slice a4 ry.length c4] _ rfl ((k1.set_ 0 _).set_ 1 _) Tryz.underlying47 rfl (by kernel_rfl)) rfl ?_
     exact ⟨_, rfl, (o4.set2 (by omega) _ _).mono (by omega), Below.set2 (b0.trans (b4'.mono (by omega))) (by omega) _ _⟩
theorem sorted_any (n : Nat) (ra : Option Addr) (rc : Nat) (L : List (List Int)) (w : World) (hL : RdS w ra L) (hs : L.Pairwise LtL) (hl : L.length ≤ 4096) (h0 : 0 < L.length) :
    Calls Tryz.prog 67 #[.int .i64 n, .slice ra L.length rc] w (ResD w (mkD n L)) := by
 obtain ⟨W0, hW0⟩ : ∃ z, z = w.alloc (.cells #[.int .i64 0, .slice none 0 0] 47) := ⟨_, rfl⟩
 have b0 : Below w.heap.size w W0 := by rw [hW0]; exact (Below.refl _ _).alloc (Nat.le_refl _) _
 have k0 : Blk W0 w.heap.size 47 #[.int .i64 0, .slice none 0 0] := by rw [hW0]; exact Blk.new _ _ _ rfl
 have z0 : w.heap.size < W0.heap.size := k0.lt
 have HW := Lib.hid hW0
 have HCP := hide (copyLists_any ra rc L W0 (hL.below b0))
 clear hW0 hL
 by_cases hlen : 128 < L.length
 · rw [show mkD n L = (0, [], 5) from if_pos hlen]
   have hl2 : (128 : Int) < (L.length : Int) := by omega
   go_enter Tryz.func67, Tryz.ntmps67
   go_upto_region 1 with fail
   rw [← HW.out]
   have k1 := k0
   have f0 := k1.cell 0
   have f1 := k1.cell 1
   have g0 := k1.frozen 0
   have g1 := k1.frozen 1
   go_wp2
   refine bodyPost_ret (results_cell_tmp_row rfl _ _ w.heap.size 47 #[.int .i64 0, .slice none 0 0] _ rfl ((k1.set_ 0 _).set_ 1 _) Tryz.underlying47 rfl (by kernel_rfl)) rfl ?_
   exact ⟨_, rfl, OwnS.nil _ _, Below.set2 b0 (by omega) _ _⟩
 · rw [show mkD n L = ((n : Int), L, 0) from if_neg hlen]
   have hl2 : ¬ (128 : Int) < (L.length : Int) := by omega
   go_enter Tryz.func67, Tryz.ntmps67
   go_upto_region 1 with fail
   rw [← HW.out]
   go_wp2_with fail
   refine (unhide HCP).mono ?_
   rintro e w1 ⟨v1, rfl, o1, b1⟩
   obtain ⟨hs1, hm1, hV, hown, hapt⟩ := o1.hdrs (by omega)
   obtain ⟨g, cc, rfl, hBg, hg2⟩ : ∃ g cc, v1 = .slice (some ⟨g, 0, none⟩) L.length cc ∧ W0.heap.size ≤ g ∧ g < w1.heap.size := by
    have hll : hs1.length = L.length := by rw [← hm1, List.length_map]
    rcases hV.form with ⟨_, e⟩ | ⟨g', c', e, h1, h2⟩
    · rw [e] at hll; simp at hll; omega
    · exact ⟨g', c', by rw [e, hll], h1, h2⟩
   have z1 := b1.size
   obtain ⟨w2, hw2⟩ : ∃ z, z = w1.alloc (.cells #[.int .i64 n, .slice (some ⟨g, 0, none⟩) L.length cc] 47) := ⟨_, rfl⟩
   have b2 : Below w1.heap.size w1 w2 := by rw [hw2]; exact (Below.refl _ _).alloc (Nat.le_refl _) _
   have kD : Blk w2 w1.heap.size 47 #[.int .i64 n, .slice (some ⟨g, 0, none⟩) L.length cc] := by rw [hw2]; exact Blk.new _ _ _ rfl
   have zD := kD.lt
   have o2 := o1.below b2 (Nat.le_refl _)
   obtain ⟨hs2, hm2, hV2, hown2, hapt2⟩ := o2.hdrs (by omega)
   have HSO := hide (sortV_own hV2)
   have HM := Lib.hid hm2
   have HOWN := hide hown2
   have HAPT := hide hapt2
   have HW2 := Lib.hid hw2
   have d1 := kD.cell 1
   clear hw2 o1 hs1 hm1 hV hown hapt o2 hm2 hV2 hown2 hapt2
   go_upto_region 4 with fail
   rw [← HW2.out]
   go_wp2_with fail
   refine (unhide HSO).mono ?_
   rintro e w3 ⟨rfl, ks, hpm, hsd, hV3, g3⟩
   have hks : ks.map Hdr.xs = L := by
    have h1 : ks.map Hdr.xs = sortL L := sortL_eq (by rw [← HM.out]; exact hpm.map _) hsd
    rw [h1]
    exact (sortL_eq (List.Perm.refl L) (hs.imp fun h => LtL.asymm h)).symm
   have hfin := hV3.rows (unhide HOWN) (unhide HAPT) hpm (List.Sublist.refl _)
   rw [hks] at hfin
   have g3 : w2.grownBy w3 (some g) := g3
   have hk3 : ∀ q, q ≠ g → q < w2.heap.size → w3.heap[q]? = w2.heap[q]? := fun q h1 h2 => g3.block q h2 (fun e => h1 (Option.some.inj e))
   have kD3 : Blk w3 w1.heap.size 47 #[.int .i64 n, .slice (some ⟨g, 0, none⟩) L.length cc] := (hk3 _ (by omega) zD).trans kD
   have k1 : Blk w3 w.heap.size 47 #[.int .i64 0, .slice none 0 0] := (hk3 _ (by omega) (by omega)).trans ((k0.below b1 z0).below b2 (by omega))
   have bw3 : Below w.heap.size w w3 := (b0.trans ((b1.trans (b2.mono z1)).mono (by omega))).grown g3 (by omega) (fun q hq => by injection hq with hq; omega)
   have HFIN := hide hfin
   have d0 := kD3.cell 0
   have d1 := kD3.cell 1
   clear hks hfin hpm hsd hV3 hk3 g3
   have f0 := k1.cell 0
   have f1 := k1.cell 1
   have g0 := k1.frozen 0
   have g1 := k1.frozen 1
   go_wp2
   refine bodyPost_ret (results_cell_tmp_row rfl _ _ w.heap.size 47 #[.int .i64 n, .slice (some ⟨g, 0, none⟩) L.length cc] _ rfl ((k1.set_ 0 _).set_ 1 _) Tryz.underlying47 rfl (by kernel_rfl)) rfl ?_
   exact ⟨_, rfl, ((unhide HFIN).set2 (by omega) _ _).mono (by omega), Below.set2 bw3 (by omega) _ _⟩
theorem implDW_any (p d : Int) (a : Option Addr) (c : Nat) (xs : List Int) (ra : Option Addr) (rc : Nat) (m : List (List Int)) (k : Int) (w : World) (hx : Rd w a xs) (hm : RdS w ra m) (ed : I64 d) : Calls Tryz.prog 19 #[.agg #[.int .i64 p, .int .i64 d, .slice a xs.length c, .slice ra m.length rc], .int .i64 k] w (ResD w (dwRes p d xs m k)) := by
 have hml := hm.len
 obtain ⟨W0, hW0⟩ : ∃ z, z = (w.alloc (.cells #[.int .i64 p, .int .i64 d, .slice a xs.length c, .slice ra m.length rc] 52)).alloc (.cells #[.int .i64 0, .slice none 0 0] 47) := ⟨_, rfl⟩
 have b0 : Below w.heap.size w W0 := by rw [hW0]; exact ((Below.refl _ _).alloc (Nat.le_refl _) _).alloc (by simp) _
 have kC : Blk W0 w.heap.size 52 #[.int .i64 p, .int .i64 d, .slice a xs.length c, .slice ra m.length rc] := by rw [hW0]; exact (Blk.new _ _ _ rfl).alloc _
 have k0 : Blk W0 (w.heap.size + 1) 47 #[.int .i64 0, .slice none 0 0] := by rw [hW0]; exact Blk.new _ _ _ (by simp)
 have z0 : w.heap.size + 1 < W0.heap.size := k0.lt
 have zC := kC.lt
 have HW := Lib.hid hW0
 have BA := hide (show ∀ W, Below W0.heap.size W0 W → Blk W w.heap.size 52 #[.int .i64 p, .int .i64 d, .slice a xs.length c, .slice ra m.length rc] from fun W h => kC.below h zC)
 have hS := implSP_any p d a c xs ra rc m k W0 (hx.below b0) (hm.below b0) ed
 have hm0 := hm.below b0
 have f0 := kC.cell 0
 have f1 := kC.cell 1
 have f2 := kC.cell 2
 have f3 := kC.cell 3
 clear hW0
 -- what SupportsOf says, and what follows
 obtain ⟨L, sc, hLs, hcase⟩ : ∃ (L : List (List Int)) (sc : Int), spRes p d xs m k = (L, sc) ∧ ((sc ≠ 0 ∧ dwRes p d xs m k = (0, [], sc)) ∨ (sc = 0 ∧ L = [] ∧ dwRes p d xs m k = (0, [], 3)) ∨ (sc = 0 ∧ 0 < L.length ∧ 0 < m.length ∧ L.Pairwise LtL ∧ L.length ≤ 4096 ∧ dwRes p d xs m k = mkD (nthL m 0).length L)) := by
  by_cases hk : okC p d xs m = true
  · by_cases hin : inB k 1 (nthL m 0).length = true
    · refine ⟨_, _, by rw [spRes, if_pos hk, if_pos hin], ?_⟩
      rw [dwRes, if_pos hk, if_pos hin]
      obtain ⟨F, n, rfl, rfl, rfl, hC⟩ := okC_gc hk
      rw [fdR_eq, hC.hn]
      by_cases he : supW F n m k = []
      · rw [if_pos he]
        exact .inr (.inl ⟨rfl, he, rfl⟩)
      · rw [if_neg he]
        have hm1 := hC.m1
        refine .inr (.inr ⟨rfl, List.length_pos_iff.2 he, by omega, distL_strict _, ?_, rfl⟩)
        have h1 := distL_len (supps (wordsTo F n m m.length) k)
        have h2 := supps_len (wordsTo F n m m.length) k
        have h3 := capTo_eq (by have := hC.good.ok.n_bd; omega) hC.cap
        have h4 := hC.cap
        rw [h3, ← Int.natCast_pow] at h4
        rw [wordsTo_len] at h2
        exact Nat.le_trans h1 (by omega)
    · exact ⟨_, _, by rw [spRes, if_pos hk, if_neg hin], .inl ⟨by decide, by rw [dwRes, if_pos hk, if_neg hin]⟩⟩
  · exact ⟨_, _, by rw [spRes, if_neg hk], .inl ⟨by decide, by rw [dwRes, if_neg hk]⟩⟩
 rw [hLs] at hS
 have HSP := hide hS
 clear hS hLs hx hm
 rcases hcase with ⟨hsc, hR⟩ | ⟨rfl, rfl, hR⟩ | ⟨rfl, hl0, hm1, hstr, hsl, hR⟩
 · rw [hR]
   have hne : (sc != 0) = true := by rw [bne_iff_ne]; exact hsc
   clear hR hsc
   go_enter Tryz.func19, Tryz.ntmps19
   go_wp2_with fail
   rw [← HW.out]
   refine (unhide HSP).mono ?_
   rintro e w1 ⟨v1, rfl, o1, b1⟩
   have k1 := k0.below b1 z0
   have f0 := k1.cell 0
   have f1 := k1.cell 1
   have g0 := k1.frozen 0
   have g1 := k1.frozen 1
   go_wp2
   refine bodyPost_ret (results_cell_tmp_row rfl _ _ (w.heap.size + 1) 47 #[.int .i64 0, .slice none 0 0] _ rfl ((k1.set_ 0 _).set_ 1 _) Tryz.underlying47 rfl (by kernel_rfl)) rfl ?_
   exact ⟨_, rfl, OwnS.nil _ _, Below.set2 (b0.trans (b1.mono (by omega))) (by omega) _ _⟩
 · rw [hR]
   clear hR
   go_enter Tryz.func19, Tryz.ntmps19
   go_wp2_with fail
   rw [← HW.out]
   refine (unhide HSP).mono ?_
   rintro e w1 ⟨v1, rfl, o1, b1⟩
   simp only [] at o1
   obtain ⟨a1, c1, rfl, _⟩ := o1.form
   have k1 := k0.below b1 z0
   have f0 := k1.cell 0
   have f1 := k1.cell 1
   have g0 := k1.frozen 0
   have g1 := k1.frozen 1
   go_wp2
   refine bodyPost_ret (results_cell_tmp_row rfl _ _ (w.heap.size + 1) 47 #[.int .i64 0, .slice none 0 0] _ rfl ((k1.set_ 0 _).set_ 1 _) Tryz.underlying47 rfl (by kernel_rfl)) rfl ?_
   exact ⟨_, rfl, OwnS.nil _ _, Below.set2 (b0.trans (b1.mono (by omega))) (by omega) _ _⟩
 · rw [hR]
   have hne : ((L.length : Int) == 0) = false := by rw [beq_eq_false_iff_ne]; omega
   have hLn : ¬ L = [] := by rintro rfl; simp at hl0
   have HLO := hide (fun W (h : Below W0.heap.size W0 W) => lengthOf_any p d a xs.length c ra rc m W (hm0.below h) hm1)
   obtain ⟨n, hn⟩ : ∃ n, n = (nthL m 0).length := ⟨_, rfl⟩
   rw [← hn] at HLO ⊢
   have HSR := hide (fun ra rc W (hr : RdS W ra L) => sorted_any n ra rc L W hr hstr hsl hl0)
   obtain ⟨R, hRR⟩ : ∃ R, R = mkD n L := ⟨_, rfl⟩
   simp only [← hRR] at HSR
   rw [← hRR]
   obtain ⟨rp, ry, rz⟩ := R
   clear hR hRR hn hstr
   go_enter Tryz.func19, Tryz.ntmps19
   go_wp2_with fail
   rw [← HW.out]
   refine (unhide HSP).mono ?_
   rintro e w1 ⟨v1, rfl, o1, b1⟩
   simp only [] at o1
   obtain ⟨a1, c1, rfl, r1⟩ := o1.form
   have HR1 := hide r1
   clear f0 f1 f2 f3 o1 r1
   have kk := unhide BA _ b1
   have f0 := kk.cell 0
   have f1 := kk.cell 1
   have f2 := kk.cell 2
   have f3 := kk.cell 3
   go_wp2_with fail
   refine (unhide HLO _ b1).mono ?_
   rintro e w2 ⟨rfl, b2⟩
   have b2' := b1.trans (b2.mono b1.size)
   have HS2 := hide (unhide HSR _ c1 w2 ((unhide HR1).below b2))
   clear f0 f1 f2 f3
   go_wp2_with fail
   refine (unhide HS2).mono ?_
   rintro e w4 ⟨v4, rfl, o4, b4⟩
   simp only [] at o4 ⊢
   obtain ⟨a4, c4, rfl, _⟩ := o4.form
   have z3 := b2'.size
   have b4' := b2'.trans (b4.mono z3)
   have k1 := k0.below b4' z0
   have f0 := k1.cell 0
   have f1 := k1.cell 1
   have g0 := k1.frozen 0
   have g1 := k1.frozen 1
   go_wp2
   refine bodyPost_ret (results_cell_tmp_row rfl _ _ (w.heap.size + 1) 47 #[.int .i64 rp, .slice a4 ry.length c4] _ rfl ((k1.set_ 0 _).set_ 1 _) Tryz.underlying47 rfl (by kernel_rfl)) rfl ?_
   exact ⟨_, rfl, (o4.set2 (by omega) _ _).mono (by omega), Below.set2 (b0.trans (b4'.mono (by omega))) (by omega) _ _⟩
end Go.Proofs.YtgfcbmflnldicaaGreat
