/-
  Texts joined.
-/
import Derived.Test.YtgfcbmflnldicaaGreatRF11
import Derived.Test.YtgfcbmflnldicaaGreatRF17
import Derived.Test.YtgfcbmflnldicaaGreatRF22
import Derived.Test.YtgfcbmflnldicaaGreatRF27
import Derived.Test.YtgfcbmflnldicaaGreatRF29
set_option linter.unusedVariables false
set_option linter.unusedSimpArgs false
set_option maxRecDepth 100000
set_option maxHeartbeats 40000000
namespace Go.Proofs.YtgfcbmflnldicaaGreat
open Go.RowKit
attribute [local go_sem ↓] Go.wp_at_zero Go.wp_at_succ
theorem step_append_edge {w : World} {B : Nat} {v : Value} {es : List (Int × Int)} {ops : Array Oper} {o : Oper} {a : Act} {K : Act → World → Prop} {Q : Exit → Act → World → Prop} {E : Prop} (hgd : o.guard = none) (s x : Operand)
    (ho : o.op = .call { callee := .builtin .append, args := #[s, x], argTypes := #[25, 25] })
    (hs : a.eval s = v) (hown : OwnE w B v es) (e : Int × Int) (g1 : Nat) (hx : a.eval x = .slice (some ⟨g1, 0, none⟩) 1 1) (h0 : w.cell? ⟨g1, 0, none⟩ = some (.int .i64 e.1)) (h1 : w.cell? ⟨g1, 1, none⟩ = some (.int .i64 e.2)) (hB : B ≤ w.heap.size) (hl : es.length + 1 ≤ 1073741824)
    (h : ∀ v' w', OwnE w' B v' (es ++ [e]) → w.grownBy w' v.ownBlock → (v'.ownBlock = v.ownBlock ∨ v'.ownBlock = some w.heap.size) → K (a.put o.dst v') w') :
    if Region.wanted o (yielded ops a.tmps) = true then Oper.wp Tryz.prog o a w K Q else E := by
 have hw : Region.wanted o (yielded ops a.tmps) = true := by simp [Region.wanted, hgd]
 rw [if_pos hw]
 obtain ⟨v', w', r1, r2, r3, r4⟩ := run_append_edge hown g1 h0 h1 hB hl o.type
 unfold Oper.wp execOp
 simp only [ho, resolve, invoke, builtin, Sem.run_bind, Sem.run_pure, Result.andThen_ok, List.map_toArray, List.map_cons, List.map_nil, hs, hx, r1]
 exact h _ _ r2 r3 r4
theorem OfSt.col {w : World} {B g g3 n c : Nat} {xs : List Int} {es : List (Int × Int)} (h : OfSt w B g (.slice (some ⟨g3, 0, none⟩) n c) xs es) (j : Nat) (x : Int) : OfSt (w.setCell ⟨g3, j, none⟩ (.int .i64 x)) B g (.slice (some ⟨g3, 0, none⟩) n c) (xs.set j x) es := by
 obtain ⟨u, k, o, e⟩ := h
 have gs := grownBy_setC w g3 j (.int .i64 x)
 exact ⟨u, k.grownG gs (o.ne_blk k), (o.set j x).1, e.grow gs (e.ne_ints o)⟩
theorem relabeled_any (a ra : Option Addr) (c rc : Nat) (xs : List Int) (es : List (Int × Int)) (pa : Option Addr) (pc m : Nat) (p : List Int) (w : World) (hx : Rd w a xs) (hes : RdE w ra es) (hp : Rd w pa p) (hm : m = xs.length) (hlp : p.length = xs.length) (hg : GG xs.length xs es) (ok : permOk p xs.length = true) :
    Calls Tryz.prog 59 #[.agg #[.slice a xs.length c, .slice ra es.length rc], .slice pa m pc] w fun e w' => ∃ v u, e = .returned (.agg #[v, u]) ∧ OwnG2 w' w.heap.size v u (setTo xs p xs.length) (edgesT xs.length (adjE (mapE p es)) xs.length) ∧ Below w.heap.size w w' := by
 subst hm
 have hn64 := hg.n64
 have hel := hes.len
 have hpn := fun i (h : i < xs.length) => permOk_at ok h
 have hin := mapE_in hg ok
 have hxl := hg.m512
 have hei := fun k (hk : k < es.length) => InE.at_ (fun e he => hg.inE e he) hk
 obtain ⟨E, hE⟩ : ∃ E, E = edgesT xs.length (adjE (mapE p es)) xs.length := ⟨_, rfl⟩
 rw [← hE]
 have HE := Lib.hid hE
 obtain ⟨w0, hw0⟩ : ∃ w0, w0 = (w.alloc (.cells #[.slice a xs.length c, .slice ra es.length rc] 27)).alloc (.cells #[.slice none 0 0, .slice none 0 0] 27) := ⟨_, rfl⟩
 have hb0 : Below w.heap.size w w0 := by rw [hw0]; exact ((Below.refl _ _).alloc (Nat.le_refl _) _).alloc (by simp) _
 have kA : Blk w0 w.heap.size 27 #[.slice a xs.length c, .slice ra es.length rc] := by rw [hw0]; exact (Blk.new _ _ _ rfl).alloc _
 have kR : Blk w0 (w.heap.size + 1) 27 #[.slice none 0 0, .slice none 0 0] := by rw [hw0]; exact Blk.new _ _ _ (by simp)
 have s0 : w0.heap.size = w.heap.size + 1 + 1 := by rw [hw0]; simp
 have BA := hide (show ∀ W, Below w0.heap.size w0 W → Blk W w.heap.size 27 #[.slice a xs.length c, .slice ra es.length rc] from fun W h => kA.below h kA.lt)
 have BR := hide (show ∀ W, Below w0.heap.size w0 W → Blk W (w.heap.size + 1) 27 #[.slice none 0 0, .slice none 0 0] from fun W h => kR.below h kR.lt)
 have HX := hide (hx.below hb0)
 have HES := hide (hes.below hb0)
 have HP := hide (hp.below hb0)
 have HPX := hide (show ∀ W, Below w0.heap.size w0 W → ∀ i, i < xs.length → ∃ b1 o1, pa = some ⟨b1, o1, none⟩ ∧ b1 < w0.heap.size ∧ W.cell? ⟨b1, o1 + i, none⟩ = some (.int .i64 (nth p i)) from fun W h i hi => by
  obtain ⟨b1, o1, e, hb, hc⟩ := (hp.below hb0).at_ (by omega)
  exact ⟨b1, o1, e, hb, (h.cell (p := ⟨b1, o1 + i, none⟩) hb).trans (hc i (by omega))⟩)
 have HPN := hide hpn
 have HIN := hide hin
 have HEI := hide hei
 have HLP := Lib.hid hlp
 have f0 := kA.cell 0
 have f1 := kA.cell 1
 rw [hw0] at f0 f1
 have HW := Lib.hid hw0
 clear hx hes hp hlp hg ok hpn hin hei hE kA kR hw0
 go_enter Tryz.func59, Tryz.ntmps59
 go_wp2_with (rw [← HW.out]; refine wpList_make_ints rfl (.tmp 12) (.tmp 12) rfl .i64 .i64 xs.length rfl rfl (by omega) ?_; intro w3 g3 o3 b3; have f0 := (unhide BA _ (b3.alloc b3.size (.cells #[.slice (some ⟨g3, 0, none⟩) xs.length xs.length, .slice none 0 0] 27))).cell 0; have f1 := (unhide BA _ (b3.alloc b3.size (.cells #[.slice (some ⟨g3, 0, none⟩) xs.length xs.length, .slice none 0 0] 27))).cell 1)
 have hin3 := o3.lt g3 rfl
 obtain ⟨W4, hW4⟩ : ∃ z, z = w3.alloc (.cells #[.slice (some ⟨g3, 0, none⟩) xs.length xs.length, .slice none 0 0] 27) := ⟨_, rfl⟩
 have b4 : Below w3.heap.size w3 W4 := by rw [hW4]; exact (Below.refl _ _).alloc (Nat.le_refl _) _
 have k4 : Blk W4 w3.heap.size 27 #[.slice (some ⟨g3, 0, none⟩) xs.length xs.length, .slice none 0 0] := by rw [hW4]; exact Blk.new _ _ _ rfl
 have d4 := b3.trans (b4.mono b3.size)
 have z3 := b3.size
 have ST := hide (show OfSt W4 w0.heap.size w3.heap.size (.slice (some ⟨g3, 0, none⟩) xs.length xs.length) (setTo xs p 0) [] from ⟨_, k4, o3.below b4 (Nat.le_refl _), OwnE.nil _ _⟩)
 rw [← hW4]
 clear hW4 o3 k4 f0 f1
 go_loopw [18] (fun iv wr => ∃ k : Nat, iv = .int .i64 k ∧ k ≤ xs.length ∧ Hid (OfSt wr w0.heap.size w3.heap.size (.slice (some ⟨g3, 0, none⟩) xs.length xs.length) (setTo xs p k) []) ∧ Below w0.heap.size w0 wr) (fun iv _ => xs.length - (intOf iv).toNat)
 case atStart => exact ⟨0, rfl, Nat.zero_le _, ST, d4⟩
 case round =>
  obtain ⟨k, rfl, hk, hs, hb⟩ := hrel
  have hsz := hb.size
  by_cases hkn : k < xs.length
  · obtain ⟨xb, xo, rfl, hxb, hxc⟩ := (unhide HX).at_ (by omega)
    have hx1 := (hb.cell (p := ⟨xb, xo + k, none⟩) hxb).trans (hxc k hkn)
    obtain ⟨pb, po, rfl, hpb, hp1⟩ := unhide HPX wr hb k hkn
    obtain ⟨j, hj, hjn⟩ := unhide HPN k hkn
    have hst : setTo xs p (k + 1) = (setTo xs p k).set j (nth xs k) := by rw [setTo, hj]; rfl
    rw [hj] at hp1
    have HST := Lib.hid hst
    obtain ⟨u, ku, ou, eu⟩ := hs.out
    have c0 := ku.cell 0
    have cj := ou.cell (j := j) (by rw [setTo_len]; exact hjn)
    have cf := ou.frozen j
    have hneb : g3 ≠ w3.heap.size := by omega
    have hnew := hs.out.col j (nth xs k)
    rw [← hst] at hnew
    have HN := hide hnew
    obtain ⟨x, hxx⟩ : ∃ x, x = nth xs k := ⟨_, rfl⟩
    rw [← hxx] at hx1
    have HXX := Lib.hid hxx
    clear hxc hst hs ku ou eu hnew hxx
    go_upto_region 5 with fail
    refine wp_region_noPanic ?_
    refine wp_region_seq (S := (fun W => W.cell? ⟨w3.heap.size, 0, none⟩ = some (.slice (some ⟨g3, 0, none⟩) xs.length xs.length) ∧ W.cell? ⟨pb, po + k, none⟩ = some (.int .i64 (j : Int)))) [true, true, true, true, true, true, true, true, false] (by kernel_rfl) (by kernel_rfl) (by kernel_rfl) rfl (fun _ _ _ _ _ h => h) ?_ (fun hHeld => ?_)
    · exact ⟨c0, hp1⟩
    simp only [List.toList_toArray]
    refine SeqH.take (v := ?hv15) (by rfl) ?hy15 ?hr15
    case hy15 =>
     intro w hSw
     try dsimp only at hSw
     go_simp
     try (with_reducible rfl)
    try simp only [Act.put, List.setIfInBounds_toArray, List.set_cons_zero, List.set_cons_succ]
    refine SeqH.take (v := ?hv16) (by rfl) ?hy16 ?hr16
    case hy16 =>
     intro w hSw
     try dsimp only at hSw
     go_simp
     try (with_reducible rfl)
    try simp only [Act.put, List.setIfInBounds_toArray, List.set_cons_zero, List.set_cons_succ]
    refine SeqH.take (v := ?hv17) (by rfl) ?hy17 ?hr17
    case hy17 =>
     intro w hSw
     try dsimp only at hSw
     go_simp
     try (with_reducible rfl)
    try simp only [Act.put, List.setIfInBounds_toArray, List.set_cons_zero, List.set_cons_succ]
    refine SeqH.take (v := ?hv18) (by rfl) ?hy18 ?hr18
    case hy18 =>
     intro w hSw
     try dsimp only at hSw
     go_simp
     try (with_reducible rfl)
    try simp only [Act.put, List.setIfInBounds_toArray, List.set_cons_zero, List.set_cons_succ]
    refine SeqH.take (v := ?hv19) (by rfl) ?hy19 ?hr19
    case hy19 =>
     intro w hSw
     try dsimp only at hSw
     go_simp
     try (with_reducible rfl)
    try simp only [Act.put, List.setIfInBounds_toArray, List.set_cons_zero, List.set_cons_succ]
    refine SeqH.take (v := ?hv20) (by rfl) ?hy20 ?hr20
    case hy20 =>
     intro w hSw
     try dsimp only at hSw
     go_simp
     try (with_reducible rfl)
    try simp only [Act.put, List.setIfInBounds_toArray, List.set_cons_zero, List.set_cons_succ]
    refine SeqH.take (v := ?hv21) (by rfl) ?hy21 ?hr21
    case hy21 =>
     intro w hSw
     try dsimp only at hSw
     go_simp
     try (with_reducible rfl)
    try simp only [Act.put, List.setIfInBounds_toArray, List.set_cons_zero, List.set_cons_succ]
    refine SeqH.take (v := ?hv22) (by rfl) ?hy22 ?hr22
    case hy22 =>
     intro w hSw
     try dsimp only at hSw
     go_simp
     try (with_reducible rfl)
    try simp only [Act.put, List.setIfInBounds_toArray, List.set_cons_zero, List.set_cons_succ]
    refine SeqH.call (fun K hK => ?_)
    go_simp
    skip
    refine hK.out _ _ ?_ (fun hHeld => ?_)
    · exact ⟨(cell_block (Below.heap_setCell wr ⟨g3, j, none⟩ _ w3.heap.size (by show w3.heap.size ≠ g3; omega)) 0).trans c0, (cell_block (Below.heap_setCell wr ⟨g3, j, none⟩ _ pb (by show pb ≠ g3; omega)) (po + k)).trans hp1⟩
    clear hK K
    try simp only [Act.put, List.setIfInBounds_toArray, List.set_cons_zero, List.set_cons_succ]
    refine SeqH.done (NoPanic.normal ?_)
    go_wp2_with fail
    go_roundw
    case rel => exact ⟨k + 1, by go_num, by omega, by show OfSt _ _ _ _ _ _; rw [HXX.out]; exact unhide HN, (hb.setCell (p := ⟨g3, j, none⟩) (by show w0.heap.size ≤ g3; omega) _).drew⟩
    case measure => simp only [intOf]; omega
  · have hke : k = xs.length := by omega
    have hso := hs.out
    rw [hke] at hso
    obtain ⟨C, hC⟩ : ∃ C, C = setTo xs p xs.length := ⟨_, rfl⟩
    rw [← hC] at hso
    have ST2 := hide (show OfSt wr w0.heap.size w3.heap.size (.slice (some ⟨g3, 0, none⟩) xs.length xs.length) C (mapE p (es.take 0)) from hso)
    have k1 := unhide BA _ hb
    have f0 := k1.cell 0
    have f1 := k1.cell 1
    have HC := Lib.hid hC
    clear hso hs hke ST hC k1
    go_wp2_with fail
    go_loopw [35] (fun iv wr => ∃ k : Nat, iv = .int .i64 k ∧ k ≤ es.length ∧ Hid (OfSt wr w0.heap.size w3.heap.size (.slice (some ⟨g3, 0, none⟩) xs.length xs.length) C (mapE p (es.take k))) ∧ Below w0.heap.size w0 wr) (fun iv _ => es.length - (intOf iv).toNat)
    case atStart => exact ⟨0, rfl, Nat.zero_le _, ST2, hb⟩
    case round =>
     obtain ⟨i, rfl, hi, hs, hb⟩ := hrel
     have hsz := hb.size
     by_cases hil : i < es.length
     · obtain ⟨eb, eo, rfl, heb, hec⟩ := (unhide HES).at_ (by omega)
       obtain ⟨hx1, hx2⟩ := hec i hil
       obtain ⟨x, y, hxy, hxn, hyn⟩ := unhide HEI i hil
       rw [hxy] at hx1 hx2
       simp only at hx1 hx2
       have hx1 := (hb.cell (p := ⟨eb, eo + i * 2, none⟩) heb).trans hx1
       have hx2 := (hb.cell (p := ⟨eb, eo + i * 2 + 1, none⟩) heb).trans hx2
       obtain ⟨wE, hwE⟩ : ∃ wE, wE = wr.alloc (.cells #[.int .i64 (x : Int), .int .i64 (y : Int)] 142) := ⟨_, rfl⟩
       have hbE : Below wr.heap.size wr wE := by rw [hwE]; exact (Below.refl _ _).alloc (Nat.le_refl _) _
       have kE : Blk wE wr.heap.size 142 #[.int .i64 (x : Int), .int .i64 (y : Int)] := by rw [hwE]; exact Blk.new _ _ _ rfl
       have hbE0 := hb.trans (hbE.mono hsz)
       have sE := kE.lt
       obtain ⟨pb, po, rfl, hpb, hp1⟩ := unhide HPX wE hbE0 x hxn
       obtain ⟨_, _, hee, _, hp2⟩ := unhide HPX wE hbE0 y hyn
       injection hee with hee
       injection hee with hee1 hee2
       subst hee1 hee2
       obtain ⟨px, hpx, _⟩ := unhide HPN x hxn
       obtain ⟨py, hpy, _⟩ := unhide HPN y hyn
       rw [hpx] at hp1
       rw [hpy] at hp2
       have hst : mapE p (es.take (i + 1)) = mapE p (es.take i) ++ [((px : Int), (py : Int))] := by rw [mapE_take hil, hxy]; simp only [Int.toNat_natCast, hpx, hpy]
       have hlL : (mapE p (es.take i)).length ≤ es.length := by rw [mapE_len, List.length_take]; omega
       obtain ⟨L, hL⟩ : ∃ L, L = mapE p (es.take i) := ⟨_, rfl⟩
       rw [← hL] at hst hlL
       have hso := hs.out
       rw [← hL] at hso
       have hult : ∀ u : Value, OwnE wr w0.heap.size u L → ∀ q, u.ownBlock = some q → w0.heap.size ≤ q ∧ q < wr.heap.size := fun u h => h.lt
       obtain ⟨u, ku, ou, eu⟩ := hso
       have hu := eu.lt
       have kuE := ku.below hbE ku.lt
       have ouE := ou.below hbE (Nat.le_refl _)
       have euE := eu.below hbE (Nat.le_refl _)
       obtain ⟨au, cu, rfl⟩ := euE.slice_val
       have key : ∀ W, Below wE.heap.size wE W → (W.cell? ⟨wr.heap.size, 0, none⟩ = some (.int .i64 (x : Int)) ∧ W.cell? ⟨wr.heap.size, 1, none⟩ = some (.int .i64 (y : Int)) ∧ W.cell? ⟨pb, po + x, none⟩ = some (.int .i64 (px : Int)) ∧ W.cell? ⟨pb, po + y, none⟩ = some (.int .i64 (py : Int)) ∧ W.cell? ⟨w3.heap.size, 1, none⟩ = some (.slice au L.length cu)) := fun W h => ⟨(kE.below h kE.lt).cell 0, (kE.below h kE.lt).cell 1, (h.cell (p := ⟨pb, po + x, none⟩) (by show pb < _; omega)).trans hp1, (h.cell (p := ⟨pb, po + y, none⟩) (by show pb < _; omega)).trans hp2, (kuE.below h kuE.lt).cell 1⟩
       have BX := hide key
       have KE := hide kE
       have KU := hide kuE
       have OU := hide ouE
       have EU := hide euE
       have HU := hide hu
       have HST := Lib.hid hst
       have HWE := Lib.hid hwE
       clear hec hwE hs ku ou eu kuE ouE euE hst hL key kE hu hult hp1 hp2 hxy
       go_upto_region 10 with fail
       rw [← HWE.out]
       refine wp_region_noPanic ?_
       refine wp_region_until (S := (fun W => W.cell? ⟨wr.heap.size, 0, none⟩ = some (.int .i64 (x : Int)) ∧ W.cell? ⟨wr.heap.size, 1, none⟩ = some (.int .i64 (y : Int)) ∧ W.cell? ⟨pb, po + x, none⟩ = some (.int .i64 (px : Int)) ∧ W.cell? ⟨pb, po + y, none⟩ = some (.int .i64 (py : Int)) ∧ W.cell? ⟨w3.heap.size, 1, none⟩ = some (.slice au L.length cu))) 16 [(0, 0), (0, 1), (0, 2), (0, 3), (0, 4), (0, 5), (0, 6), (0, 7), (0, 8), (0, 9), (0, 10), (0, 11), (0, 12), (1, 13), (1, 14), (0, 15), (2, 16)] (by kernel_rfl) (by kernel_rfl) (by kernel_rfl) rfl (fun _ _ _ _ _ h => h) ?_ (fun hHeld => ?_)
       · exact (unhide BX) _ (Below.refl _ _).drew
       refine SeqU.take (by rfl) (v := ?hv23) (by rfl) ?hy23 ?hr23
       case hy23 =>
        intro w hSw
        try dsimp only at hSw
        go_simp
        try (with_reducible rfl)
       try simp only [Act.put, List.setIfInBounds_toArray, List.set_cons_zero, List.set_cons_succ]
       refine SeqU.take (by rfl) (v := ?hv24) (by rfl) ?hy24 ?hr24
       case hy24 =>
        intro w hSw
        try dsimp only at hSw
        go_simp
        try (with_reducible rfl)
       try simp only [Act.put, List.setIfInBounds_toArray, List.set_cons_zero, List.set_cons_succ]
       refine SeqU.take (by rfl) (v := ?hv25) (by rfl) ?hy25 ?hr25
       case hy25 =>
        intro w hSw
        try dsimp only at hSw
        go_simp
        try (with_reducible rfl)
       try simp only [Act.put, List.setIfInBounds_toArray, List.set_cons_zero, List.set_cons_succ]
       refine SeqU.take (by rfl) (v := ?hv26) (by rfl) ?hy26 ?hr26
       case hy26 =>
        intro w hSw
        try dsimp only at hSw
        go_simp
        try (with_reducible rfl)
       try simp only [Act.put, List.setIfInBounds_toArray, List.set_cons_zero, List.set_cons_succ]
       refine SeqU.take (by rfl) (v := ?hv27) (by rfl) ?hy27 ?hr27
       case hy27 =>
        intro w hSw
        try dsimp only at hSw
        go_simp
        try (with_reducible rfl)
       try simp only [Act.put, List.setIfInBounds_toArray, List.set_cons_zero, List.set_cons_succ]
       refine SeqU.take (by rfl) (v := ?hv28) (by rfl) ?hy28 ?hr28
       case hy28 =>
        intro w hSw
        try dsimp only at hSw
        go_simp
        try (with_reducible rfl)
       try simp only [Act.put, List.setIfInBounds_toArray, List.set_cons_zero, List.set_cons_succ]
       refine SeqU.take (by rfl) (v := ?hv29) (by rfl) ?hy29 ?hr29
       case hy29 =>
        intro w hSw
        try dsimp only at hSw
        go_simp
        try (with_reducible rfl)
       try simp only [Act.put, List.setIfInBounds_toArray, List.set_cons_zero, List.set_cons_succ]
       refine SeqU.take (by rfl) (v := ?hv30) (by rfl) ?hy30 ?hr30
       case hy30 =>
        intro w hSw
        try dsimp only at hSw
        go_simp
        try (with_reducible rfl)
       try simp only [Act.put, List.setIfInBounds_toArray, List.set_cons_zero, List.set_cons_succ]
       refine SeqU.take (by rfl) (v := ?hv31) (by rfl) ?hy31 ?hr31
       case hy31 =>
        intro w hSw
        try dsimp only at hSw
        go_simp
        try (with_reducible rfl)
       try simp only [Act.put, List.setIfInBounds_toArray, List.set_cons_zero, List.set_cons_succ]
       refine SeqU.take (by rfl) (v := ?hv32) (by rfl) ?hy32 ?hr32
       case hy32 =>
        intro w hSw
        try dsimp only at hSw
        go_simp
        try (with_reducible rfl)
       try simp only [Act.put, List.setIfInBounds_toArray, List.set_cons_zero, List.set_cons_succ]
       refine SeqU.take (by rfl) (v := ?hv33) (by rfl) ?hy33 ?hr33
       case hy33 =>
        intro w hSw
        try dsimp only at hSw
        go_simp
        try (with_reducible rfl)
       try simp only [Act.put, List.setIfInBounds_toArray, List.set_cons_zero, List.set_cons_succ]
       refine SeqU.take (by rfl) (v := ?hv34) (by rfl) ?hy34 ?hr34
       case hy34 =>
        intro w hSw
        try dsimp only at hSw
        go_simp
        try (with_reducible rfl)
       try simp only [Act.put, List.setIfInBounds_toArray, List.set_cons_zero, List.set_cons_succ]
       refine SeqU.take (by rfl) (v := ?hv35) (by rfl) ?hy35 ?hr35
       case hy35 =>
        intro w hSw
        try dsimp only at hSw
        go_simp
        try (with_reducible rfl)
       try simp only [Act.put, List.setIfInBounds_toArray, List.set_cons_zero, List.set_cons_succ]
       refine SeqU.call (by rfl) (fun K hK => ?_)
       go_simp
       obtain ⟨wF, hwF⟩ : ∃ z, z = (wE.alloc (.cells #[.int .i64 (px : Int), .int .i64 (py : Int)] 142)).drew := ⟨_, rfl⟩
       have hbF : Below wE.heap.size wE wF := by rw [hwF]; exact ((Below.refl _ _).alloc (Nat.le_refl _) _).drew
       have kF0 : wF.cell? ⟨wE.heap.size, 0, none⟩ = some (.int .i64 (px : Int)) := by rw [hwF]; exact (Blk.new wE 142 #[.int .i64 (px : Int), .int .i64 (py : Int)] rfl).cell 0
       have kF1 : wF.cell? ⟨wE.heap.size, 1, none⟩ = some (.int .i64 (py : Int)) := by rw [hwF]; exact (Blk.new wE 142 #[.int .i64 (px : Int), .int .i64 (py : Int)] rfl).cell 1
       have dF := hbE0.trans (hbF.mono hbE0.size)
       have oF := (unhide EU).below hbF (Nat.le_refl _)
       rw [← hwF]
       clear hwF
       refine hK.out _ _ ?_ (fun hHeld => ?_)
       · exact (unhide BX) _ hbF
       clear hK K
       try simp only [Act.put, List.setIfInBounds_toArray, List.set_cons_zero, List.set_cons_succ]
       refine SeqU.call (by rfl) (fun K hK => ?_)
       refine step_append_edge rfl (.tmp 40) (.tmp 52) rfl rfl oF ((px : Int), (py : Int)) wE.heap.size rfl kF0 kF1 (by have := dF.size; omega) (by omega) ?_
       intro v5 w5 o5 g5 hb5
       obtain ⟨a5, c5, rfl⟩ := o5.slice_val
       have pu := OfSt.push (unhide KU) (unhide OU) (unhide EU) hbF g5 o5
       have qc := pu.1
       have qf := pu.2.1
       have kk := (unhide BX) _ hbF
       have e5 : ∀ b, b < wE.heap.size → (∀ q, Value.ownBlock (.slice au L.length cu) = some q → q ≠ b) → ∀ f, w5.cell? ⟨b, f, none⟩ = wF.cell? ⟨b, f, none⟩ := fun b hb hne f => cell_block (g5.block b (by have := hbF.size; omega) (fun e => hne b e.symm rfl)) f
       have hq1 : ∀ q, Value.ownBlock (.slice au L.length cu) = some q → q ≠ wr.heap.size := fun q hq => by have := (unhide HU) q hq; omega
       have hq2 : ∀ q, Value.ownBlock (.slice au L.length cu) = some q → q ≠ pb := fun q hq => by have := (unhide HU) q hq; omega
       refine hK.out _ _ ?_ (fun hHeld => ?_)
       · exact ⟨(e5 _ sE hq1 0).trans kk.1, (e5 _ sE hq1 1).trans kk.2.1, (e5 pb (by omega) hq2 _).trans kk.2.2.1, (e5 pb (by omega) hq2 _).trans kk.2.2.2.1, qc⟩
       clear hK K
       try simp only [Act.put, List.setIfInBounds_toArray, List.set_cons_zero, List.set_cons_succ]
       refine SeqU.take (by rfl) (v := ?hv36) (by rfl) ?hy36 ?hr36
       case hy36 =>
        intro w hSw
        try dsimp only at hSw
        go_simp
        try (with_reducible rfl)
       try simp only [Act.put, List.setIfInBounds_toArray, List.set_cons_zero, List.set_cons_succ]
       refine SeqU.last (by rfl) (fun K hK => ?_)
       go_simp
       skip
       refine hK.out _ _ ?_
       clear hK K
       try simp only [Act.put, List.setIfInBounds_toArray, List.set_cons_zero, List.set_cons_succ]
       refine SeqU.done (NoPanic.normal ?_)
       have pu2 := pu.2.2
       rw [show (L ++ [((px : Int), (py : Int))]).length = L.length + 1 by simp] at pu2
       have b9 := ((dF.grown g5 dF.size (fun q hq => ((unhide HU) q hq).1)).setCell (p := ⟨w3.heap.size, 1, none⟩) (by show w0.heap.size ≤ w3.heap.size; omega) (.slice a5 (L.length + 1) c5))
       have PU := hide pu2
       clear pu pu2
       go_wp2_with fail
       go_roundw
       case rel => exact ⟨i + 1, by go_num, by omega, by show OfSt _ _ _ _ _ _; rw [HST.out]; exact unhide PU, b9⟩
       case measure => simp only [intOf]; omega
     · have hie : i = es.length := by omega
       have hso := hs.out
       rw [hie, List.take_length] at hso
       obtain ⟨u, ku, ou, eu⟩ := hso
       obtain ⟨au, cu, rfl⟩ := eu.slice_val
       obtain ⟨ml, hml⟩ : ∃ ml, ml = (mapE p es).length := ⟨_, rfl⟩
       have hse := sortedEdges_any au cu (mapE p es) wr eu.rd
       rw [← hml] at hse ku
       have HSE := hide hse
       have c1 := ku.cell 1
       have KU := hide ku
       have OU := hide ou
       clear hie hs eu ou ku hml hse
       go_wp2_with fail
       refine (unhide HSE).mono ?_
       rintro e w7 ⟨v7, gs, rfl, hgs, o7, b7⟩
       have hgE : gs = E := by rw [HE.out]; exact hgs.edges (unhide HIN)
       subst hgE
       obtain ⟨a7, c7, rfl⟩ := o7.slice_val
       have d7 := hb.trans (b7.mono hsz)
       have k7 := (unhide KU).below b7 (unhide KU).lt
       have ou7 := (unhide OU).below b7 (Nat.le_refl _)
       have q1 := k7.cell 1
       have q2 := k7.frozen 1
       obtain ⟨W8, hW8⟩ : ∃ z, z = w7.setCell ⟨w3.heap.size, 1, none⟩ (.slice a7 gs.length c7) := ⟨_, rfl⟩
       have gs8 := grownBy_setC w7 w3.heap.size 1 (.slice a7 gs.length c7)
       rw [← hW8] at gs8
       have d8 : Below w0.heap.size w0 W8 := by rw [hW8]; exact d7.setCell (by show w0.heap.size ≤ w3.heap.size; omega) _
       have k8 : Blk W8 w3.heap.size 27 #[.slice (some ⟨g3, 0, none⟩) xs.length xs.length, .slice a7 gs.length c7] := by rw [hW8]; exact k7.set_ 1 _
       have o8 : Own W8 w0.heap.size (.slice (some ⟨g3, 0, none⟩) xs.length xs.length) C := ou7.grow gs8 (.inr (ou7.ne_blk k7))
       have e8 : OwnE W8 wr.heap.size (.slice a7 gs.length c7) gs := o7.grow gs8 (.inr (o7.ne_blk k7))
       have HW8 := Lib.hid hW8
       have O8 := hide (show OwnG2 W8 w0.heap.size (.slice (some ⟨g3, 0, none⟩) xs.length xs.length) (.slice a7 gs.length c7) C gs from ⟨o8, e8.mono hsz⟩)
       have r0 := k8.cell 0
       have r1 := k8.cell 1
       have kr := unhide BR W8 d8
       have s0' := kr.frozen 0
       have s1' := kr.frozen 1
       have t0 := kr.cell 0
       have t1 := kr.cell 1
       clear hW8 gs8 k7 ou7 o7 k8 o8 e8 hgs
       go_upto_region 13 with fail
       rw [← HW8.out]
       go_wp2_with fail
       refine bodyPost_ret (results_cell_row rfl _ _ (w.heap.size + 1) 27 #[.slice (some ⟨g3, 0, none⟩) xs.length xs.length, .slice a7 gs.length c7] (0, 0) _ rfl ((kr.set_ 0 _).set_ 1 _) Tryz.underlying27 rfl (by kernel_rfl)) rfl ⟨_, _, rfl, ?_, ?_⟩
       · rw [← HC.out]; exact (((unhide O8).storeBelow (by show w.heap.size + 1 < _; omega) _).storeBelow (by show w.heap.size + 1 < _; omega) _).mono (by omega)
       · exact ((hb0.trans (d8.mono (by omega))).setCell (by show _ ≤ w.heap.size + 1; omega) _).setCell (by show _ ≤ w.heap.size + 1; omega) _
end Go.Proofs.YtgfcbmflnldicaaGreat
namespace Go.Proofs.YtgfcbmflnldicaaGreat
open Go.RowKit
theorem implRL_any (a : Option Addr) (c : Nat) (xs : List Int) (ra : Option Addr) (rc : Nat) (es : List (Int × Int)) (pa : Option Addr) (pc : Nat) (p : List Int) (w : World) (hx : Rd w a xs) (hes : RdE w ra es) (hp : Rd w pa p) :
    Calls Tryz.prog 13 #[.agg #[.slice a xs.length c, .slice ra es.length rc], .slice pa p.length pc] w (RetG w (rlRes xs es p)) := by
 have hxl := hx.len
 have hel := hes.len
 generalize hR : rlRes xs es p = r
 obtain ⟨w0, hw0⟩ : ∃ w0, w0 = (w.alloc (.cells #[.slice a xs.length c, .slice ra es.length rc] 27)).alloc (.cells #[.slice none 0 0, .slice none 0 0] 27) := ⟨_, rfl⟩
 have hb0 : Below w.heap.size w w0 := by rw [hw0]; exact ((Below.refl _ _).alloc (Nat.le_refl _) _).alloc (by simp) _
 have kA : Blk w0 w.heap.size 27 #[.slice a xs.length c, .slice ra es.length rc] := by rw [hw0]; exact (Blk.new _ _ _ rfl).alloc _
 have kR : Blk w0 (w.heap.size + 1) 27 #[.slice none 0 0, .slice none 0 0] := by rw [hw0]; exact Blk.new _ _ _ (by simp)
 have s0 : w0.heap.size = w.heap.size + 1 + 1 := by rw [hw0]; simp
 have BA := hide (show ∀ W, Below w0.heap.size w0 W → Blk W w.heap.size 27 #[.slice a xs.length c, .slice ra es.length rc] from fun W h => kA.below h kA.lt)
 have BR := hide (show ∀ W, Below w0.heap.size w0 W → Blk W (w.heap.size + 1) 27 #[.slice none 0 0, .slice none 0 0] from fun W h => kR.below h kR.lt)
 have HX := hide (hx.below hb0)
 have HES := hide (hes.below hb0)
 have f0 := kA.cell 0
 have f1 := kA.cell 1
 rw [hw0] at f0 f1
 have HW := Lib.hid hw0
 have HP := hide (hp.below hb0)
 clear hp
 have hv := implValidGraph_any a ra c rc xs es w0 (unhide HX) (unhide HES)
 cases hk : okG xs es with
 | false =>
  have HN := Lib.hid (show r = ([], [], 1) by rw [← hR, rlRes, hk]; rfl)
  rw [hk] at hv
  have HV := hide hv
  clear hv hk hR hw0
  go_enter Tryz.func13, Tryz.ntmps13
  go_wp2_with fail
  rw [← HW.out]
  refine (unhide HV).mono ?_
  rintro e w1 ⟨rfl, b1⟩
  clear f0 f1
  have kr := unhide BR w1 (b1)
  have r0 := kr.cell 0
  have r1 := kr.cell 1
  have q0 := kr.frozen 0
  have q1 := kr.frozen 1
  go_wp2
  refine bodyPost_ret (results_cell_tmp_row rfl _ _ (w.heap.size + 1) 27 #[.slice none 0 0, .slice none 0 0] _ rfl ((kr.set_ 0 _).set_ 1 _) Tryz.underlying27 rfl (by kernel_rfl)) rfl ?_
  rw [HN.out]
  exact ⟨_, _, rfl, OwnG2.nil _ _, ((hb0.trans (Below.mono (b1) (by omega))).setCell (by show w.heap.size ≤ w.heap.size + 1; omega) _).setCell (by show w.heap.size ≤ w.heap.size + 1; omega) _⟩
 | true =>
  have hG := okG_iff.1 hk
  have hn64 := hG.n64
  rw [hk] at hv
  have HV := hide hv
  have hpo := fun W (h : Below w0.heap.size w0 W) => isOrder_any pa pc p xs.length (by omega) W ((unhide HP).below h)
  have HPO := hide hpo
  have hsz0 := fun W => size_any a xs.length c W
  have HSZ := hide hsz0
  have HGG := hide hG
  have hR2 : r = if permOk p xs.length = true then (setTo xs p xs.length, edgesT xs.length (adjE (mapE p es)) xs.length, 0) else ([], [], 2) := by rw [← hR, rlRes, if_pos hk]
  have HRR := Lib.hid hR2
  clear hv hk hR hw0 hpo hR2 hG hsz0
  cases hpk : permOk p xs.length with
  | false =>
   have HN := Lib.hid (show r = ([], [], 2) by rw [HRR.out, hpk]; rfl)
   rw [hpk] at HPO
   clear hpk
   go_enter Tryz.func13, Tryz.ntmps13
   go_wp2_with fail
   rw [← HW.out]
   refine (unhide HV).mono ?_
   rintro e w1 ⟨rfl, b1⟩
   clear f0 f1
   have k1 := unhide BA w1 (b1)
   have f0 := k1.cell 0
   have f1 := k1.cell 1
   go_wp2_with fail
   refine (unhide HSZ _).mono ?_
   rintro e w2 ⟨rfl, rfl⟩
   go_wp2_with fail
   refine (unhide HPO _ b1).mono ?_
   rintro e w3 ⟨rfl, b3⟩
   have d3 := Below.chain b1 b3
   clear f0 f1
   have kr := unhide BR w3 (d3)
   have r0 := kr.cell 0
   have r1 := kr.cell 1
   have q0 := kr.frozen 0
   have q1 := kr.frozen 1
   go_wp2
   refine bodyPost_ret (results_cell_tmp_row rfl _ _ (w.heap.size + 1) 27 #[.slice none 0 0, .slice none 0 0] _ rfl ((kr.set_ 0 _).set_ 1 _) Tryz.underlying27 rfl (by kernel_rfl)) rfl ?_
   rw [HN.out]
   exact ⟨_, _, rfl, OwnG2.nil _ _, ((hb0.trans (Below.mono (d3) (by omega))).setCell (by show w.heap.size ≤ w.heap.size + 1; omega) _).setCell (by show w.heap.size ≤ w.heap.size + 1; omega) _⟩
  | true =>
   obtain ⟨C, hC⟩ : ∃ C, C = setTo xs p xs.length := ⟨_, rfl⟩
   obtain ⟨E, hE⟩ : ∃ E, E = edgesT xs.length (adjE (mapE p es)) xs.length := ⟨_, rfl⟩
   have HN := Lib.hid (show r = (C, E, 0) by rw [HRR.out, if_pos hpk, hC, hE])
   have hlp := (permOk_iff0.1 hpk).1
   have hre := fun W (h : Below w0.heap.size w0 W) => relabeled_any a ra c rc xs es pa pc p.length p W ((unhide HX).below h) ((unhide HES).below h) ((unhide HP).below h) hlp hlp (unhide HGG) hpk
   rw [← hC, ← hE] at hre
   have HRE := hide hre
   rw [hpk] at HPO
   clear hpk hlp hre hC hE
   go_enter Tryz.func13, Tryz.ntmps13
   go_wp2_with fail
   rw [← HW.out]
   refine (unhide HV).mono ?_
   rintro e w1 ⟨rfl, b1⟩
   clear f0 f1
   have k1 := unhide BA w1 (b1)
   have f0 := k1.cell 0
   have f1 := k1.cell 1
   go_wp2_with fail
   refine (unhide HSZ _).mono ?_
   rintro e w2 ⟨rfl, rfl⟩
   go_wp2_with fail
   refine (unhide HPO _ b1).mono ?_
   rintro e w3 ⟨rfl, b3⟩
   have d3 := Below.chain b1 b3
   clear f0 f1 k1
   have k1 := unhide BA w3 (d3)
   have f0 := k1.cell 0
   have f1 := k1.cell 1
   go_wp2_with fail
   refine (unhide HRE _ d3).mono ?_
   rintro e w5 ⟨v5, u5, rfl, o5, b5⟩
   have d5 := Below.chain d3 b5
   have z3 := d3.size
   obtain ⟨a5, c5, ra5, rc5, rfl, rfl, _, _⟩ := o5.form
   have O5 := hide o5
   clear o5 f0 f1 k1
   have kr := unhide BR w5 (d5)
   have r0 := kr.cell 0
   have r1 := kr.cell 1
   have q0 := kr.frozen 0
   have q1 := kr.frozen 1
   go_wp2
   refine bodyPost_ret (results_cell_tmp_row rfl _ _ (w.heap.size + 1) 27 #[.slice a5 C.length c5, .slice ra5 E.length rc5] _ rfl ((kr.set_ 0 _).set_ 1 _) Tryz.underlying27 rfl (by kernel_rfl)) rfl ?_
   rw [HN.out]
   exact ⟨_, _, rfl, (((unhide O5).storeBelow (by show w.heap.size + 1 < _; omega) _).storeBelow (by show w.heap.size + 1 < _; omega) _).mono (by omega), ((hb0.trans (Below.mono (d5) (by omega))).setCell (by show w.heap.size ≤ w.heap.size + 1; omega) _).setCell (by show w.heap.size ≤ w.heap.size + 1; omega) _⟩
end Go.Proofs.YtgfcbmflnldicaaGreat
