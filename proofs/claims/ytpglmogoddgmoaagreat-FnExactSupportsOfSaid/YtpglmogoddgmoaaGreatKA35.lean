/-
  Texts joined.
-/
import Derived.Test.YtpglmogoddgmoaaGreatKA19
import Derived.Test.YtpglmogoddgmoaaGreatKA33
import Derived.Test.YtpglmogoddgmoaaGreatKA34
set_option linter.unusedVariables false
set_option linter.unusedSimpArgs false
set_option maxRecDepth 100000
set_option maxHeartbeats 40000000
namespace Go.Proofs.YtpglmogoddgmoaaGreat
open Go.RowKit
attribute [local go_sem ↓] Go.wp_at_zero Go.wp_at_succ
theorem l05Find_any (ra : Option Addr) (rc : Nat) (L : List (List Int)) (a : Option Addr) (c : Nat) (x : List Int) (w : World) (hL : RdS w ra L) (hx : Rd w a x) (hs : L.Pairwise LtL) (hl : L.length ≤ 1000000) :
    Calls Tryz.prog 130 #[.slice ra L.length rc, .slice a x.length c] w fun e w' => ∃ (p : Nat) (b : Bool), e = .returned (.tuple #[.int .i64 p, .bool b]) ∧ (b = true → x ∈ L) ∧ (b = false → At L x p) ∧ Qt w w' := by
 have hxl := hx.len
 have HL := hide hL
 have HX := hide hx
 have HS := hide (show ∀ i j, i < j → j < L.length → LtL (nthL L i) (nthL L j) from fun i j h1 h2 => by
  rw [nthL_lt (by omega), nthL_lt h2]
  exact List.pairwise_iff_getElem.1 hs i j (by omega) h2 h1)
 clear hL hx hs
 go_enter Tryz.func130, Tryz.ntmps130
 go_wp2_with fail
 go_loopw [6, 7] (fun iv jv wr => ∃ i j : Nat, iv = .int .i64 i ∧ jv = .int .i64 j ∧ i ≤ j ∧ j ≤ L.length ∧ Hid (∀ t, t < i → LtL (nthL L t) x) ∧ Hid (∀ t, j ≤ t → t < L.length → LtL x (nthL L t)) ∧ Qt w wr) (fun iv jv _ => (intOf jv).toNat - (intOf iv).toNat)
 case atStart => exact ⟨0, L.length, rfl, rfl, Nat.zero_le _, Nat.le_refl _, fun t ht => by omega, fun t h1 h2 => by omega, Qt.refl _⟩
 case round =>
  obtain ⟨i, j, rfl, rfl, hij, hj, hlo, hhi, hqt⟩ := hrel
  by_cases hlt : i < j
  · obtain ⟨h, hh, hh1, hh2⟩ : ∃ h : Nat, h = (i + j) / 2 ∧ i ≤ h ∧ h < j := ⟨_, rfl, by omega, by omega⟩
    have hhe : ((i : Int) + (j : Int)) / 2 = (h : Int) := by omega
    have hhl : h < L.length := by omega
    obtain ⟨b1, o1, rfl, _, hc⟩ := (unhide HL).at_ (by omega)
    obtain ⟨ai, ci, h3, hri⟩ := hc h hhl
    have g1 : wr.cell? ⟨b1, o1 + h, none⟩ = some (.slice ai (nthL L h).length ci) := by obtain ⟨_, rfl⟩ := hqt; exact h3
    have hcs := compareS_any ai a ci c (nthL L h) x wr (hri.below (hqt.below _)) ((unhide HX).below (hqt.below _))
    have hrl := hri.len
    have htr := ltL_tri (nthL L h) x
    have hz1 : cmpL (nthL L h) x = 0 ↔ nthL L h = x := cmpL_zero
    have hmem : nthL L h ∈ L := by rw [nthL_lt hhl]; exact List.getElem_mem hhl
    have hbel : LtL (nthL L h) x → ∀ t, t < h + 1 → LtL (nthL L t) x := fun h1 t ht => by
     rcases Nat.lt_succ_iff_lt_or_eq.1 ht with h2 | rfl
     · exact (unhide HS t h h2 hhl).trans h1
     · exact h1
    have habv : LtL x (nthL L h) → ∀ t, h ≤ t → t < L.length → LtL x (nthL L t) := fun h1 t h2 h3 => by
     rcases Nat.lt_or_eq_of_le h2 with h4 | rfl
     · exact h1.trans (unhide HS h t h4 h3)
     · exact h1
    have hneg : LtL (nthL L h) x ↔ cmpL (nthL L h) x < 0 := Iff.rfl
    have hgt : ¬ nthL L h = x → ¬ LtL (nthL L h) x → LtL x (nthL L h) := fun h1 h2 => by
     rcases htr with h3 | h3 | h3
     · exact absurd h3 h2
     · exact absurd h3 h1
     · exact h3
    obtain ⟨row, hrow⟩ : ∃ row, row = nthL L h := ⟨_, rfl⟩
    rw [← hrow] at g1 hcs hrl hz1 hmem hbel habv hneg hgt
    obtain ⟨z, hz⟩ : ∃ z, z = cmpL row x := ⟨_, rfl⟩
    rw [← hz] at hcs hz1 hneg
    have HCS := hide hcs
    have HZ1 := hide hz1
    have HNEG := hide hneg
    have HMEM := hide hmem
    have HBEL := hide hbel
    have HABV := hide habv
    have HGT := hide hgt
    clear hh hc h3 hri hcs htr hz1 hmem hbel habv hneg hgt hrow hz
    by_cases hz0 : z = 0
    · have hze : (z == 0) = true := by rw [beq_iff_eq]; exact hz0
      have HE := Lib.hid hz0
      clear hz0
      go_wp2_with fail
      refine (unhide HCS).mono ?_
      rintro e w1 ⟨rfl, q1⟩
      go_wp2
      go_ret2
      exact ⟨h, true, rfl, fun _ => by rw [← (unhide HZ1).1 HE.out]; exact unhide HMEM, fun e => by (cases e), hqt.trans q1⟩
    · have hze : (z == 0) = false := by rw [beq_eq_false_iff_ne]; exact hz0
      by_cases hzn : z < 0
      · have hnx := unhide HBEL ((unhide HNEG).2 hzn)
        have HNX := hide hnx
        clear hnx hz0 hlo
        go_wp2_with fail
        refine (unhide HCS).mono ?_
        rintro e w1 ⟨rfl, q1⟩
        go_wp2
        go_roundw
        case rel => exact ⟨h + 1, j, by go_num, rfl, by omega, hj, unhide HNX, hhi, hqt.trans q1⟩
        case measure => simp only [intOf]; omega
      · have hnx := unhide HABV (unhide HGT (fun e => hz0 ((unhide HZ1).2 e)) (fun e => hzn ((unhide HNEG).1 e)))
        have HNX := hide hnx
        clear hnx hz0 hhi
        go_wp2_with fail
        refine (unhide HCS).mono ?_
        rintro e w1 ⟨rfl, q1⟩
        go_wp2
        go_roundw
        case rel => exact ⟨i, h, rfl, rfl, by omega, by omega, hlo, unhide HNX, hqt.trans q1⟩
        case measure => simp only [intOf]; omega
  · obtain rfl : i = j := by omega
    have HAT := hide (show At L x i from ⟨hj, hlo.out, hhi.out⟩)
    clear hlo hhi
    go_wp2
    go_ret2
    exact ⟨i, false, rfl, fun e => by (cases e), fun _ => unhide HAT, hqt⟩
theorem wpList_append_hdrs {w : World} {ops : Array Oper} {rest : List Oper} {o : Oper} {a : Act} {Q : Exit → Act → World → Prop} (hgd : o.guard = none) (s x : Operand)
    (ho : o.op = .call { callee := .builtin .append, args := #[s, x], argTypes := #[42, 42] }) {B n : Nat} {v : Value} {vs : List Value} (hs : a.eval s = v) (hown : w.ownsRow B 24 1 v n vs) (hv : v ≠ .slice none 0 0)
    (b off m c : Nat) (news : List Hdr) (hx : a.eval x = .slice (some ⟨b, off, none⟩) m c) (hl : news.length = m) (hc : ∀ j, j < m → w.cell? ⟨b, off + j, none⟩ = some (hdAt news j).val) (hn : n + m ≤ 1000000) (hB : B ≤ w.heap.size)
    (h : ∀ v' w', w'.ownsRow B 24 1 v' (n + m) (vs ++ news.map Hdr.val) → v' ≠ .slice none 0 0 → w.grownBy w' v.ownBlock → (v'.ownBlock = v.ownBlock ∨ v'.ownBlock = some w.heap.size) → wpList Tryz.prog ops Q rest (a.put o.dst v') w') :
    wpList Tryz.prog ops Q (o :: rest) a w := by
 obtain ⟨i0, hi0, hz0, hz1, hz2⟩ := info_parts Tryz.info_row
 refine wpList_append_own_at w hgd s x 42 ho B 24 i0 (.slice none 0 0) 1 24 Tryz.underlying42 hi0 hz0 hz1 hz2 rfl (by omega) v n vs hs hown ⟨b, off, none⟩ m c (news.map Hdr.val) hx (by rw [List.length_map]; omega) (fun j u hu => ?_) (fun u hu => ?_) (by unfold maxLen; omega) (by omega) hB ?_
 · rw [List.getElem?_map] at hu
   have hj : j < m := by
    rcases Nat.lt_or_ge j news.length with h1 | h1
    · omega
    · rw [List.getElem?_eq_none h1] at hu; cases hu
   rw [List.getElem?_eq_getElem (by omega)] at hu
   injection hu with hu
   rw [Addr.add_lit, hc j hj, hdAt_lt (by omega), hu]
 · obtain ⟨k, _, rfl⟩ := List.mem_map.1 hu
   rfl
 · intro v' w' h1 h2 h3 h4
   exact h v' w' h1 (fun e => hv (h3.1 e).1) h2 h4
theorem l05Put_any {B : Nat} {L : List (List Int)} {x : List Int} {vp : Value} (g c p : Nat) (w : World) (hL : OwnS w B (.slice (some ⟨g, 0, none⟩) L.length c) L) (hx : Own w B vp x) (hp : p ≤ L.length) (hl : L.length ≤ 100000) (N : Nat) (hN : OwnSH w B N (.slice (some ⟨g, 0, none⟩) L.length c) L) (hvN : ∀ b, vp.ownBlock = some b → N ≤ b) (hB : B ≤ w.heap.size) :
    Calls Tryz.prog 131 #[.slice (some ⟨g, 0, none⟩) L.length c, .int .i64 p, vp] w fun e w' => ∃ v', e = .returned v' ∧ OwnS w' B v' (L.take p ++ x :: L.drop p) ∧ v' ≠ .slice none 0 0 ∧ Below w.heap.size w w' := by
 obtain ⟨hs, hm, hV, hown, hapt⟩ := hL.hdrs (by omega)
 have hhl : hs.length = L.length := by rw [← hm, List.length_map]
 obtain ⟨ap, cp, rfl, hrp, hltp⟩ := hx.form
 obtain ⟨hd, hhd⟩ : ∃ hd : Hdr, hd = ⟨ap, cp, x⟩ := ⟨_, rfl⟩
 have hdv : hd.val = .slice ap x.length cp := by rw [hhd]; rfl
 have hapt2 : (hd :: hs).Pairwise Apt := by
  rw [List.pairwise_cons]
  refine ⟨fun k hk b hb => ?_, hapt⟩
  obtain ⟨i, hi, rfl⟩ := List.getElem_of_mem hk
  rw [hdv] at hb
  have hcl := hV.cell (j := i) hi
  rw [hdAt_lt hi] at hcl
  intro hb2
  obtain ⟨_, vs, hr, _, _, hbn⟩ := hN
  have h1 := hr.cellAt i (by omega)
  rw [h1] at hcl
  have := hbn i _ hcl b hb2
  have := hvN b hb
  omega
 have hown2 : ∀ k ∈ hd :: hs, Own w B k.val k.xs := fun k hk => by
  rcases List.mem_cons.1 hk with rfl | hk
  · rw [hhd]; exact hx
  · exact hown k hk
 have hcc : L.length ≤ c ∧ c ≤ 9223372036854775807 := by
  rcases hV.2.1.2 with ⟨e, _⟩ | ⟨g', cap', cur, e, _, _, h5, h6, _⟩
  · cases e
  · injection e with _ _ e
    unfold maxLen at h6
    omega
 obtain ⟨hcc1, hcc2⟩ := hcc
 have hcell : ∀ j, j < L.length → w.cell? ⟨g, j, none⟩ = some (hdAt hs j).val := fun j hj => hV.cell (by omega)
 have hgl : g < w.heap.size := by
  rcases hV.form with ⟨e, _⟩ | ⟨g', c', e, _, h⟩
  · cases e
  · injection e with e _ _
    injection e with e
    injection e with e _
    omega
 have HCE := hide (show ∀ W, Below w.heap.size w W → ∀ j, j < L.length → W.cell? ⟨g, j, none⟩ = some (hdAt hs j).val from fun W h j hj => (h.cell (p := ⟨g, j, none⟩) hgl).trans (hcell j hj))
 have HFIN := hide (show ∀ W v', Below w.heap.size w W → W.ownsRow B 24 1 v' (p + 1 + (L.length - p)) (((hs.take p).map Hdr.val ++ [hd.val]) ++ (hs.drop p).map Hdr.val) → OwnS W B v' (L.take p ++ x :: L.drop p) from fun W v' hb hr => by
  have e1 : (hs.take p ++ hd :: hs.drop p).map Hdr.xs = L.take p ++ x :: L.drop p := by
   rw [List.map_append, List.map_cons, List.map_take, List.map_drop, hm, hhd]
  have e2 : ((hs.take p).map Hdr.val ++ [hd.val]) ++ (hs.drop p).map Hdr.val = (hs.take p ++ hd :: hs.drop p).map Hdr.val := by simp
  have el : (hs.take p ++ hd :: hs.drop p).length = p + 1 + (L.length - p) := by simp; omega
  have hperm : (hs.take p ++ hd :: hs.drop p).Perm (hd :: hs) := by
   have h1 := List.perm_middle (a := hd) (l₁ := hs.take p) (l₂ := hs.drop p)
   rwa [List.take_append_drop] at h1
  rw [← e1]
  refine OwnS.of_hdrs (by rw [el]; omega) (by rw [el, ← e2]; exact hr) (fun k hk => (hown2 k (hperm.mem_iff.1 hk)).below hb (Nat.le_refl _)) ((hperm.pairwise_iff (fun a => Apt.symm a)).2 hapt2))
 have HDV := Lib.hid hdv
 have p1 : (p : Int) ≤ (c : Int) := by omega
 have p2 : ¬ (L.length : Int) < (p : Int) := by omega
 have p3 : 0 ≤ (p : Int) := by omega
 have p4 : (p : Int) ≤ (L.length : Int) := by omega
 clear hL hm hV hown hapt hhd hdv hapt2 hown2 hcell hN hvN hx hrp hltp
 go_enter Tryz.func131, Tryz.ntmps131
 go_upto_region 1 with fail
 obtain ⟨w1, hw1⟩ : ∃ z, z = w.alloc (.cells #[] 24) := ⟨_, rfl⟩
 have b1 : Below w.heap.size w w1 := by rw [hw1]; exact (Below.refl _ _).alloc (Nat.le_refl _) _
 have hr1 : w1.ownsRow w.heap.size 24 1 (.slice (some ⟨w.heap.size, 0, none⟩) 0 0) 0 [] := by rw [hw1]; exact World.ownsRow_made w #[] 0 (Nat.le_refl _) (Nat.zero_le _) (by simp)
 have z1 := b1.size
 have HW1 := Lib.hid hw1
 clear hw1
 go_upto_region 2 with (at_builtin; rw [← HW1.out]; refine wpList_append_hdrs rfl (.tmp 8) (.tmp 11) rfl (v := .slice (some ⟨w.heap.size, 0, none⟩) 0 0) (n := 0) (vs := []) (B := w.heap.size) rfl hr1 (by simp) g 0 p c (hs.take p) rfl (by rw [List.length_take]; omega) (fun j hj => ?_) (by omega) z1 ?_; (rw [Nat.zero_add, unhide HCE w1 b1 j (by omega), hdAt_lt (by omega), hdAt_lt (by rw [List.length_take]; omega), List.getElem_take]); intro v2 w2 r2 n2 g2 _)
 have b2 : Below w.heap.size w w2 := b1.grown g2 z1 (fun q hq => by simp [Value.ownBlock] at hq; omega)
 have hr2 : w2.ownsRow w.heap.size 24 1 v2 p ((hs.take p).map Hdr.val) := by simpa using r2
 have z2 := b2.size
 have hg2 : ∀ q, v2.ownBlock = some q → w.heap.size ≤ q := fun q hq => (hr2.lt q hq).1
 obtain ⟨w3, hw3⟩ : ∃ z, z = w2.alloc (.cells #[.slice ap x.length cp] 24) := ⟨_, rfl⟩
 have b3 : Below w2.heap.size w2 w3 := by rw [hw3]; exact (Below.refl _ _).alloc (Nat.le_refl _) _
 have k3 : Blk w3 w2.heap.size 24 #[.slice ap x.length cp] := by rw [hw3]; exact Blk.new _ _ _ rfl
 have hr3 := ownsRow_below hr2 b3 (Nat.le_refl _)
 have z3 := b3.size
 have b3' := b2.trans (b3.mono z2)
 have HW3 := Lib.hid hw3
 have hc1 : ∀ j, j < 1 → w3.cell? ⟨w2.heap.size, 0 + j, none⟩ = some (hdAt [hd] j).val := fun j hj => by
  obtain rfl : j = 0 := by omega
  exact (k3.cell 0).trans (congrArg some HDV.out.symm)
 clear r2 hw3 hr1 g2
 go_upto_region 3 with (at_builtin; (rw [← HW3.out]; refine wpList_append_hdrs rfl (.tmp 13) (.tmp 15) rfl (v := v2) (n := p) (vs := (hs.take p).map Hdr.val) (B := w.heap.size) rfl hr3 n2 w2.heap.size 0 1 1 [hd] rfl rfl hc1 (by omega) (by omega) ?_; intro v4 w4 r4 n4 g4 _))
 have b4 : Below w.heap.size w w4 := b3'.grown g4 (by omega) (fun q hq => hg2 q hq)
 have z4 := b4.size
 have hg4 : ∀ q, v4.ownBlock = some q → w.heap.size ≤ q := fun q hq => (r4.lt q hq).1
 have hc4 := unhide HCE w4 b4
 clear g4 hr3 hr2 k3 b3 hc1
 have hdl : (hs.drop p).length = L.length - p := by rw [List.length_drop]; omega
 have hcd : ∀ j, j < L.length - p → w4.cell? ⟨g, p + j, none⟩ = some (hdAt (hs.drop p) j).val := fun j hj => by
  rw [hc4 (p + j) (by omega), hdAt_lt (by omega), hdAt_lt (by omega), List.getElem_drop]
 have hfin : ∀ W v', Below w.heap.size w W → W.ownsRow w.heap.size 24 1 v' (p + 1 + (L.length - p)) (((hs.take p).map Hdr.val ++ [hd].map Hdr.val) ++ (hs.drop p).map Hdr.val) → OwnS W B v' (L.take p ++ x :: L.drop p) := fun W v' hb hr => unhide HFIN W v' hb (by
  obtain ⟨h1, h2⟩ := hr
  refine ⟨h1, ?_⟩
  rcases h2 with h2 | ⟨g', cap, cur, e, hB', r⟩
  · exact .inl h2
  · exact .inr ⟨g', cap, cur, e, by omega, r⟩)
 have HF := hide hfin
 have HCD := hide hcd
 clear hc4 hfin hcd
 by_cases hcp : c = p
 · have hz : L.length - p = 0 := by omega
   have hpl : L.length = p := by omega
   have HZ := Lib.hid hz
   have hcc : (c = p) = True := eq_true hcp
   have hc0 : ∀ j, j < 0 → w4.cell? ⟨g, 0 + j, none⟩ = some (hdAt (hs.drop p) j).val := fun j hj => by omega
   have hdl0 : (hs.drop p).length = 0 := by omega
   clear hz
   subst hcp
   rw [hpl]
   go_wp2_with (at_builtin; refine wpList_append_hdrs rfl (.tmp 17) (.tmp 20) rfl (v := v4) (n := c + 1) (vs := (hs.take c).map Hdr.val ++ [hd].map Hdr.val) (B := w.heap.size) rfl r4 n4 g 0 0 0 (hs.drop c) rfl hdl0 hc0 (by omega) (by omega) ?_; intro v5 w5 r5 n5 g5 _)
   have b5 := b4.grown g5 z4 (fun q hq => hg4 q hq)
   go_wp2
   go_ret
   exact ⟨_, rfl, unhide HF w5 v5 b5 (by rw [HZ.out]; exact r5), n5, b5⟩
 · have hne : (c = p) = False := eq_false hcp
   have hdl1 : (hs.drop p).length = L.length - p := hdl
   go_wp2_with (at_builtin; refine wpList_append_hdrs rfl (.tmp 17) (.tmp 20) rfl (v := v4) (n := p + 1) (vs := (hs.take p).map Hdr.val ++ [hd].map Hdr.val) (B := w.heap.size) rfl r4 n4 g p (L.length - p) (c - p) (hs.drop p) rfl hdl1 (unhide HCD) (by omega) (by omega) ?_; intro v5 w5 r5 n5 g5 _)
   have b5 := b4.grown g5 z4 (fun q hq => hg4 q hq)
   go_wp2
   go_ret
   exact ⟨_, rfl, unhide HF w5 v5 b5 r5, n5, b5⟩
theorem l20Supports_any (gC : Nat) (F : FD) (ra : Option Addr) (rc : Nat) (m : List (List Int)) (n : Nat) (k : Int) (w : World) (hF : PF w gC F) (hc3 : w.cell? ⟨gC, 3, none⟩ = some (.slice ra m.length rc)) (hm : RdS w ra m) (hC : GC F n m) :
    Calls Tryz.prog 68 #[.pointer (some ⟨gC, 0, none⟩), .int .i64 k] w fun e w' => ∃ v, e = .returned v ∧ OwnS w' w.heap.size v (supW F n m k) ∧ Below w.heap.size w w' := by
 have ok := hC.good.ok
 obtain ⟨n2, n64⟩ := ok.n_bd
 have HWO := hide (l18Words_any gC F ra rc m n w hF hc3 hm hC)
 have hwl : (wordsTo F n m m.length).length ≤ 4096 := by
  have h1 := capTo_eq (by omega) hC.cap
  have h2 := hC.cap
  rw [h1, ← Int.natCast_pow] at h2
  rw [wordsTo_len]
  omega
 have hsw : supW F n m k = distL (supps (wordsTo F n m m.length) k) := rfl
 obtain ⟨W, hW⟩ : ∃ W, W = wordsTo F n m m.length := ⟨_, rfl⟩
 rw [← hW] at HWO hwl hsw
 have HSW := Lib.hid hsw
 clear hW hsw hC hF hc3 hm
 go_enter Tryz.func68, Tryz.ntmps68
 go_wp2_with fail
 refine (unhide HWO).mono ?_
 rintro e w1 ⟨v1, rfl, o1, b1⟩
 obtain ⟨a1, c1, rfl, r1⟩ := o1.form
 have HR1 := hide r1
 have z1 := b1.size
 clear o1 r1
 go_wp2_with fail
 go_loopw [6, 7] (fun v iv wr => ∃ i : Nat, iv = .int .i64 i ∧ i ≤ W.length ∧ v ≠ .slice none 0 0 ∧ Hid (OwnS wr w1.heap.size v (distL (supps (W.take i) k))) ∧ Below w1.heap.size w1 wr) (fun _ iv _ => W.length - (intOf iv).toNat)
 case atStart => exact ⟨0, rfl, Nat.zero_le _, by simp, by show OwnS _ _ _ _; rw [show distL (supps (W.take 0) k) = [] by simp [supps, distL, sortL, cmpct]]; exact OwnS.empty w1 (Nat.le_refl _), (Below.refl _ _).alloc (Nat.le_refl _) _⟩
 case round =>
  obtain ⟨i, rfl, hi, hnn, ho, hb⟩ := hrel
  have hsz := hb.size
  rename World => wo
  by_cases hil : i < W.length
  · obtain ⟨b2, o2, rfl, hb2, hc⟩ := (unhide HR1).at_ (by omega)
    obtain ⟨ai, ci, h3, hri⟩ := hc i hil
    have g1 := (hb.cell (p := ⟨b2, o2 + i, none⟩) hb2).trans h3
    have hriW := hri.below hb
    have hwo := l18Weight_any ai ci (nthL W i) wo hriW
    have hso := l20Support_any ai ci (nthL W i) wo hriW
    have hhit := supps_hit (W := W) (k := k) hil
    have hmis := supps_miss (W := W) (k := k) hil
    have hrl := hri.len
    have hSl := supps_len (W.take i) k
    have hDl := distL_len (supps (W.take i) k)
    rw [List.length_take] at hSl
    obtain ⟨row, hrow⟩ : ∃ row, row = nthL W i := ⟨_, rfl⟩
    rw [← hrow] at g1 hwo hso hhit hmis hrl
    obtain ⟨t, ht⟩ : ∃ t : Int, t = ((wt row : Nat) : Int) := ⟨_, rfl⟩
    rw [← ht] at hwo hhit hmis
    obtain ⟨S, hS⟩ : ∃ S, S = suppTo row row.length := ⟨_, rfl⟩
    rw [← hS] at hso hhit
    have HWT := hide hwo
    have HSO := hide hso
    clear hwo hso hri h3 hc hrow ht hS
    by_cases hk : t = k
    · have hke : (t != k) = false := by rw [bne_eq_false_iff_eq]; exact hk
      have HK := Lib.hid hk
      obtain ⟨X, hX⟩ : ∃ X, X = supps (W.take i) k := ⟨_, rfl⟩
      have hh := hhit hk
      rw [← hX] at ho hh hSl hDl
      have HH := Lib.hid hh
      have hstr := distL_strict X
      have hput := fun p (h : At (distL X) S p) => put_dist h
      have hagn := fun (h : S ∈ distL X) => dist_again h
      obtain ⟨L, hL⟩ : ∃ L, L = distL X := ⟨_, rfl⟩
      rw [← hL] at ho hstr hput hagn hDl
      obtain ⟨gv, cv, rfl, hgv⟩ : ∃ gv cv, u6 = .slice (some ⟨gv, 0, none⟩) L.length cv ∧ w1.heap.size ≤ gv := by
       obtain ⟨_, vs, hr, _⟩ := ho.out
       rcases hr.2 with ⟨e, _⟩ | ⟨g', cap, cur, e, hB, _⟩
       · exact absurd e hnn
       · exact ⟨g', cap, e, hB⟩
      have HO := hide ho.out.toH
      have HSTR := hide hstr
      have HPUT := hide hput
      have HAGN := hide hagn
      have HL := Lib.hid hL
      clear hhit hmis ho hk hX hh hstr hput hagn hL hnn
      go_wp2_with fail
      refine (unhide HWT).mono ?_
      rintro e w2 ⟨rfl, rfl⟩
      go_wp2_with fail
      refine (unhide HSO).mono ?_
      rintro e w3 ⟨v3, rfl, o3, b3⟩
      obtain ⟨a3, c3, rfl, r3, _⟩ := o3.form
      have HH3 := hide ((unhide HO).belw b3 (Nat.le_refl _))
      have O3 := hide o3
      have z3 := b3.size
      have hbw := hb.trans (b3.mono hsz)
      have HF3 := hide (l05Find_any (some ⟨gv, 0, none⟩) cv L a3 c3 S w3 (unhide HH3).rd r3 (unhide HSTR) (by omega))
      clear o3 r3
      go_wp2_with fail
      refine (unhide HF3).mono ?_
      rintro e w4 ⟨p, bq, rfl, hb1, hb0, q4⟩
      have b4 := q4.below w3.heap.size
      have hbw4 := hbw.trans (b4.mono (by omega))
      have HH4 := hide ((unhide HH3).belw b4 (by omega))
      cases bq with
      | true =>
       have hmem := hb1 rfl
       have hnx : OwnS w4 w1.heap.size (.slice (some ⟨gv, 0, none⟩) L.length cv) (distL (supps (W.take (i + 1)) k)) := by
        rw [HH.out, ← unhide HAGN hmem]
        exact (unhide HH4).own
       have HNX := hide hnx
       clear hb1 hb0 hmem hnx
       go_wp2
       go_roundw
       case rel => exact ⟨i + 1, by go_num, by omega, by simp, unhide HNX, hbw4⟩
       case measure => simp only [intOf]; omega
      | false =>
       have hat := hb0 rfl
       have hpl := hat.le
       have hcp := unhide HPUT p hat
       have o4 := (unhide O3).below b4 (Nat.le_refl _)
       have HPT := hide (l05Put_any (B := w1.heap.size) gv cv p w4 (unhide HH4).own (o4.mono hsz) hpl (by omega) wo.heap.size (unhide HH4) (fun b hb => (o4.lt b hb).1) (by have := q4.below 0 |>.size; omega))
       have HCP := Lib.hid hcp
       have z4 := b4.size
       clear hb1 hb0 hat hcp o4
       go_wp2_with fail
       refine (unhide HPT).mono ?_
       rintro e w5 ⟨v5, rfl, o5, n5, b5⟩
       have hnx : OwnS w5 w1.heap.size v5 (distL (supps (W.take (i + 1)) k)) := by
        rw [HH.out, ← HCP.out]
        exact o5
       have HNX := hide hnx
       have hbw5 := hbw4.trans (b5.mono (by omega))
       have N5 := hide n5
       clear hnx o5 n5
       go_wp2
       go_roundw
       case rel => exact ⟨i + 1, by go_num, by omega, unhide N5, unhide HNX, hbw5⟩
       case measure => simp only [intOf]; omega
    · have HH := Lib.hid (hmis hk)
      have hke : (t != k) = true := by rw [bne_iff_ne]; exact hk
      have N5 := hide hnn
      clear hhit hmis hk hnn
      go_wp2_with fail
      refine (unhide HWT).mono ?_
      rintro e w2 ⟨rfl, rfl⟩
      go_wp2_with fail
      go_roundw
      case rel => exact ⟨i + 1, by go_num, by omega, unhide N5, by show OwnS _ _ _ _; rw [HH.out]; exact ho.out, hb⟩
      case measure => simp only [intOf]; omega
  · have hie : i = W.length := by omega
    have hoo := ho.out
    rw [hie, List.take_length, ← HSW.out] at hoo
    have HOO := hide (hoo.mono z1)
    clear hie hoo ho hnn
    go_wp2
    go_ret
    exact ⟨_, rfl, unhide HOO, b1.trans (hb.mono z1)⟩
noncomputable def askV (p d : Int) (xs : List Int) (m : List (List Int)) (k : Int) : Int := if okC p d xs m = true then (if inB k 1 (nthL m 0).length = true then 0 else 2) else 1
theorem l20Ask_any (g : Nat) (p d : Int) (a : Option Addr) (c : Nat) (xs : List Int) (ra : Option Addr) (rc : Nat) (m : List (List Int)) (k : Int) (w : World) (hP : PC w g p d a c xs ra rc m) :
    Calls Tryz.prog 67 #[.pointer (some ⟨g, 0, none⟩), .int .i64 k] w fun e w' => e = .returned (.int .i64 (askV p d xs m k)) ∧ Below w.heap.size w w' := by
 have hml := hP.2.2.len
 have hV := l18Ok_any g p d a c xs ra rc m w hP
 unfold askV
 cases hk : okC p d xs m with
 | false =>
  rw [hk] at hV
  have HV := hide hV
  rw [if_neg (by simp)]
  clear hV hk hP
  go_enter Tryz.func67, Tryz.ntmps67
  go_wp2_with fail
  refine (unhide HV).mono ?_
  rintro e w1 ⟨rfl, b1⟩
  go_wp2
  go_ret
  exact ⟨rfl, b1⟩
 | true =>
  rw [hk] at hV
  have HV := hide hV
  rw [if_pos rfl]
  obtain ⟨F, n, rfl, rfl, rfl, hC⟩ := okC_gc hk
  rw [hC.hn]
  have hm1 := hC.m1
  obtain ⟨gb, ob, ai, ci, rfl, hro, hgb⟩ := hP.row0 (by omega)
  rw [hC.hn] at hro
  have hm0 : 0 < m.length := by omega
  have HWI := hide (fun W => l00In_any k 1 n W)
  obtain ⟨q, hq⟩ : ∃ q, q = inB k 1 n := ⟨_, rfl⟩
  simp only [← hq] at HWI
  rw [← hq]
  clear hV hk hC hq
  have hg := hP.1.lt
  have hc3 := hP.2.1
  go_enter Tryz.func67, Tryz.ntmps67
  go_wp2_with fail
  refine (unhide HV).mono ?_
  rintro e w1 ⟨rfl, b1⟩
  have f3 := (b1.cell (p := ⟨g, 3, none⟩) hg).trans hc3
  have fr := (b1.cell (p := ⟨gb, ob, none⟩) hgb).trans hro
  clear hP
  go_wp2_with fail
  refine (unhide HWI _).mono ?_
  rintro e w2 ⟨rfl, rfl⟩
  cases q with
  | false =>
   go_wp2
   go_ret
   exact ⟨rfl, b1⟩
  | true =>
   go_wp2
   go_ret
   exact ⟨rfl, b1⟩
theorem specSP_any (p d : Int) (a : Option Addr) (c : Nat) (xs : List Int) (ra : Option Addr) (rc : Nat) (m : List (List Int)) (k : Int) (w : World) (hx : Rd w a xs) (hm : RdS w ra m) : Calls Tryz.prog 18 #[.agg #[.int .i64 p, .int .i64 d, .slice a xs.length c, .slice ra m.length rc], .int .i64 k] w (ResLLi w (spRes p d xs m k)) := by
 have hml := hm.len
 obtain ⟨W0, hW0⟩ : ∃ z, z = w.alloc (.cells #[.int .i64 p, .int .i64 d, .slice a xs.length c, .slice ra m.length rc] 50) := ⟨_, rfl⟩
 have b0 : Below w.heap.size w W0 := by rw [hW0]; exact (Below.refl _ _).alloc (Nat.le_refl _) _
 have k0 : Blk W0 w.heap.size 50 #[.int .i64 p, .int .i64 d, .slice a xs.length c, .slice ra m.length rc] := by rw [hW0]; exact Blk.new _ _ _ rfl
 have z0 : w.heap.size < W0.heap.size := k0.lt
 have hP : PC W0 w.heap.size p d a c xs ra rc m := ⟨⟨k0.cell 0, k0.cell 1, k0.cell 2, hx.below b0⟩, k0.cell 3, hm.below b0⟩
 have HW := Lib.hid hW0
 have hA := l20Ask_any w.heap.size p d a c xs ra rc m k W0 hP
 clear hW0
 unfold spRes
 unfold askV at hA
 cases hk : okC p d xs m with
 | false =>
  rw [hk, if_neg (by simp)] at hA
  have HA := hide hA
  rw [if_neg (by simp)]
  clear hA hk hx hm
  go_enter Tryz.func18, Tryz.ntmps18
  go_wp2_with fail
  rw [← HW.out]
  refine (unhide HA).mono ?_
  rintro e w1 ⟨rfl, b1⟩
  go_wp2
  go_ret2
  exact ⟨_, rfl, OwnS.nil _ _, b0.trans (b1.mono (Nat.le_of_lt z0))⟩
 | true =>
  rw [hk, if_pos rfl] at hA
  rw [if_pos rfl]
  obtain ⟨F, n, rfl, rfl, rfl, hC⟩ := okC_gc hk
  rw [hC.hn] at hA
  rw [fdR_eq, hC.hn]
  cases hin : inB k 1 n with
  | false =>
   rw [hin, if_neg (by simp)] at hA
   rw [if_neg (by simp)]
   have HA := hide hA
   clear hA hk hx hm hin
   go_enter Tryz.func18, Tryz.ntmps18
   go_wp2_with fail
   rw [← HW.out]
   refine (unhide HA).mono ?_
   rintro e w1 ⟨rfl, b1⟩
   go_wp2
   go_ret2
   exact ⟨_, rfl, OwnS.nil _ _, b0.trans (b1.mono (Nat.le_of_lt z0))⟩
  | true =>
   rw [hin, if_pos rfl] at hA
   rw [if_pos rfl]
   have HA := hide hA
   have HSU := hide (fun W (h : Below W0.heap.size W0 W) => l20Supports_any w.heap.size F ra rc m n k W ((hP.1.below h).pf) (hP.below h).2.1 (hP.below h).2.2 hC)
   clear hA hk hx hm hin
   go_enter Tryz.func18, Tryz.ntmps18
   go_wp2_with fail
   rw [← HW.out]
   refine (unhide HA).mono ?_
   rintro e w1 ⟨rfl, b1⟩
   go_wp2_with fail
   refine (unhide HSU _ b1).mono ?_
   rintro e w4 ⟨v4, rfl, o4, b4⟩
   have z2 := b1.size
   have o4' := o4.mono (show w.heap.size ≤ w1.heap.size by omega)
   clear o4
   go_wp2
   go_ret2
   exact ⟨_, rfl, o4', b0.trans ((b1.trans (b4.mono z2)).mono (Nat.le_of_lt z0))⟩
end Go.Proofs.YtpglmogoddgmoaaGreat
