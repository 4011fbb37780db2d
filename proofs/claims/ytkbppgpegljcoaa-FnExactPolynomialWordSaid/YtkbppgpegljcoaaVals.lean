/-
  Walks: values of polynomials, on both sides.
-/
import Derived.Test.YtkbppgpegljcoaaRev
import Derived.Test.YtkbppgpegljcoaaMakeS
namespace Go.Proofs.Ytkbppgpegljcoaa
open Go.RowKit
attribute [local go_sem ↓] Go.wp_at_zero Go.wp_at_succ

/-- A value in Horner's way, the highest coefficient last in the list. -/
def hst (F : FD) (x v c : Int) : Int := lin 1 F.p F.k (mulF F.p F.k F.poly v x) c
def valF (F : FD) (x : Int) (msg : List Int) : Int := msg.foldr (fun c v => hst F x v c) 0
theorem valF_drop (F : FD) (x : Int) {msg : List Int} {k : Nat} (h : k < msg.length) : valF F x (msg.drop k) = hst F x (valF F x (msg.drop (k + 1))) (nth msg k) := by
  rw [List.drop_eq_getElem_cons h, nth_lt h]; rfl
theorem hst_range {F : FD} (ok : F.Ok) (x v c : Int) : 0 ≤ hst F x v c ∧ hst F x v c < 64 := by
  have h := lin_range (show 0 < F.p by have := ok.p2; omega) 1 F.k (mulF F.p F.k F.poly v x) c
  have := ok.q64
  exact ⟨h.1, by unfold hst; omega⟩
theorem valF_range {F : FD} (ok : F.Ok) (x : Int) (msg : List Int) : 0 ≤ valF F x msg ∧ valF F x msg < 64 := by
  cases msg with
  | nil => exact ⟨Int.le_refl _, by show (0 : Int) < 64; omega⟩
  | cons c cs => exact hst_range ok _ _ _
theorem mulF_bd {F : FD} (ok : F.Ok) (a b : Int) : 0 ≤ mulF F.p F.k F.poly a b ∧ mulF F.p F.k F.poly a b ≤ 1000000 := by
  have h := mulF_range (show 0 < F.p by have := ok.p2; omega) ok.len a b
  have := ok.q64
  exact ⟨h.1, by omega⟩

def vals (F : FD) (msg : List Int) (n : Nat) : List Int := (List.range n).map fun (x : Nat) => valF F x msg
theorem vals_len (F : FD) (msg : List Int) (n : Nat) : (vals F msg n).length = n := by simp [vals]
theorem vals_succ (F : FD) (msg : List Int) (n : Nat) : vals F msg (n + 1) = vals F msg n ++ [valF F n msg] := by simp [vals, List.range_succ]

set_option maxRecDepth 100000 in
set_option maxHeartbeats 1600000 in
theorem l19Values_any (g : Nat) (F : FD) (b : Option Addr) (cb : Nat) (msg : List Int) (n : Nat) (w : World) (hF : PF w g F) (ok : F.Ok) (hx : Rd w b msg) (hn : n ≤ 64) (hm : ∀ c ∈ msg, 0 ≤ c ∧ c ≤ 1000000) :
    Calls Try.prog 68 #[.pointer (some ⟨g, 0, none⟩), .slice b msg.length cb, .int .i64 n] w fun e w' => ∃ v, e = .returned v ∧ Own w' w.heap.size v (vals F msg n) ∧ Below w.heap.size w w' := by
  have hml := hx.len
  have hlen : (msg.length : Int) - 1 < 1073741824 := by omega
  go_enter Try.func68, Try.ntmps68
  go_wp2
  go_loopw [7, 8] (fun v xv wr => ∃ (x : Nat), xv = .int .i64 x ∧ x ≤ n ∧ Hid (Own wr w.heap.size v (vals F msg x)) ∧ Below w.heap.size w wr) (fun _ xv _ => n - (intOf xv).toNat)
  case atStart => exact ⟨0, rfl, Nat.zero_le _, Own.empty w (Nat.le_refl _), (Below.refl _ _).alloc (Nat.le_refl _) _⟩
  case round =>
    obtain ⟨x, rfl, hxn, ho, hb⟩ := hrel
    by_cases hxl : x < n
    · obtain ⟨wo, rfl⟩ : ∃ wo : World, wo = wr := ⟨_, rfl⟩
      have hsz := hb.size
      obtain ⟨v7, rfl⟩ : ∃ v7, v7 = u7 := ⟨_, rfl⟩
      go_wp2_with fail
      go_loopw [9, 10] (fun vv kv wr => ∃ (j : Nat) (k y : Int), kv = .int .i64 k ∧ vv = .int .i64 y ∧ Hid (k = (j : Int) - 1) ∧ j ≤ msg.length ∧ -1 ≤ k ∧ k < 1073741824 ∧ Hid (y = valF F x (msg.drop j)) ∧ 0 ≤ y ∧ y ≤ 64 ∧ Hid (Own wr w.heap.size v7 (vals F msg x)) ∧ Below w.heap.size w wr) (fun _ kv _ => (intOf kv + 1).toNat)
      case atStart => exact ⟨msg.length, _, 0, rfl, rfl, by show _ = _; simp, Nat.le_refl _, by omega, by omega, by show _ = _; simp [valF], by omega, by omega, ho, hb⟩
      case round =>
        obtain ⟨j, k, y, rfl, rfl, hkj, hj, hk0, hk1, hy, hy0, hy1, ho2, hb2⟩ := hrel
        have hsz2 := hb2.size
        by_cases h0 : 0 ≤ k
        · obtain ⟨m, rfl⟩ := Int.eq_ofNat_of_zero_le h0
          obtain rfl : j = m + 1 := by have := hkj.out; omega
          have hml2 : m < msg.length := by omega
          obtain ⟨gb, ob, rfl, hbb, hcx⟩ := hx.at_ (by omega)
          have hc := hcx m hml2
          have hcr := hm _ (nth_mem hml2)
          obtain ⟨c, hcc⟩ : ∃ c, c = nth msg m := ⟨_, rfl⟩
          rw [← hcc] at hc hcr
          obtain ⟨M, hMM⟩ : ∃ M, M = mulF F.p F.k F.poly y x := ⟨_, rfl⟩
          have hMb := mulF_bd ok y x
          rw [← hMM] at hMb
          have boxes : ∀ (W : World), Below w.heap.size w W → (Below w.heap.size w W ∧ W.cell? ⟨gb, ob + m, none⟩ = some (.int .i64 c)) := fun _ h => ⟨h, (h.cell (p := ⟨gb, ob + m, none⟩) hbb).trans hc⟩
          have hmul := fun W h => l03Mul_any g F y x W h ok hy0 (by omega) (by omega) (by omega)
          have hsum := fun W h => l03Sum_any g F M c 1 W h ok hMb.1 hMb.2 hcr.1 hcr.2 (by omega) (by omega)
          rw [← hMM] at hmul
          have BX := hide boxes
          have HMUL := hide hmul
          have HSUM := hide hsum
          have HST : Hid (lin 1 F.p F.k M c = valF F x (msg.drop m)) := by show _ = _; rw [valF_drop F x hml2, hst, hMM, hcc, hy.out]
          have hrng := hst_range ok x y c
          rw [hst, ← hMM] at hrng
          clear boxes hmul hsum hcx hc hcc hMM
          go_upto_region 9 with fail
          go_region_held3 (fun W => Below w.heap.size w W ∧ W.cell? ⟨gb, ob + m, none⟩ = some (.int .i64 c))
            (first | exact (unhide BX) _ hb2 | exact (unhide BX) _ (hb2.drew) | exact (unhide BX) _ (by assumption))
            (first
              | (go_at_call 84; refine (unhide HMUL _ ?_).mono ?_; exact hF.below (And.left (by assumption)); rintro e W1 ⟨rfl, b1⟩; have hB1 := Below.chain (a := w) (And.left (by assumption)) b1; have hQ1 := b1.size)
              | (go_at_call 83; refine (unhide HSUM _ ?_).mono ?_; exact hF.below hB1; rintro e W2 ⟨rfl, b2⟩; have hB2 := Below.chain hB1 b2))
          have hb3 := hB2
          clear BX HMUL HSUM hB1 hB2
          go_wp2
          go_roundw
          case rel => exact ⟨m, _, _, rfl, rfl, by show _ = _; omega, by omega, by omega, by omega, by show _ = _; exact HST.out, hrng.1, by omega, by show Own _ _ _ _; exact (ho2.out.drewN 1).below (b1.trans (b2.mono hQ1)) (Nat.le_refl _), hb3⟩
          case measure => first | (simp [intOf]; done) | (simp [intOf]; omega)
        · have hk : j = 0 := by have := hkj.out; omega
          subst hk
          have HY : Hid (y = valF F x msg) := by show _ = _; rw [hy.out, List.drop_zero]
          go_wp2_with (at_builtin; refine wpList_append_ints rfl (.tmp 34) (.tmp 36) rfl w.heap.size v7 (vals F msg x) [y] rfl (ho2.out.alloc _) _ 1 1 rfl rfl (Rd.one wr y _) (by rw [vals_len]; simp; omega) (by simp; omega) ?_; intro v1 w1 o1 g1 _)
          go_roundw
          case rel => exact ⟨x + 1, by go_num, by omega, by show Own _ _ _ _; rw [vals_succ, ← HY.out]; exact o1, Below.step (hb2.alloc hsz2 _) g1 (ho2.out.alloc _) (Nat.le_refl _) (by simp; omega)⟩
          case measure => simp only [intOf]; omega
    · have hxe : x = n := by omega
      have HE := Lib.hid hxe
      clear hxe
      go_wp2
      go_ret
      exact ⟨_, rfl, by have o := ho.out; rw [HE.out] at o; exact o, hb⟩

/-! ### The program's -/
def horT (F : FD) (x : Int) (cs : List Int) (j : Nat) : Int := (cs.take j).foldl (fun v c => hst F x v c) 0
theorem horT_succ (F : FD) (x : Int) {cs : List Int} {j : Nat} (h : j < cs.length) : horT F x cs (j + 1) = hst F x (horT F x cs j) (nth cs j) := by
  rw [horT, take_nth h, List.foldl_append]; rfl
theorem horT_rev (F : FD) (x : Int) (msg : List Int) : horT F x msg.reverse msg.reverse.length = valF F x msg := by
  rw [horT, List.take_length, List.foldl_reverse]; rfl

set_option maxRecDepth 100000 in
set_option maxHeartbeats 1600000 in
theorem valueAt_any (F : FD) (ap : Option Addr) (cp : Nat) (b : Option Addr) (cb : Nat) (cs : List Int) (x : Int) (w : World) (hR : Rd w ap F.poly) (ok : F.Ok) (hx : Rd w b cs) (hx0 : 0 ≤ x) (hx1 : x ≤ 64) (hm : ∀ c ∈ cs, 0 ≤ c ∧ c ≤ 1000000) :
    Calls Try.prog 130 #[.agg #[.int .i64 F.p, .int .i64 F.k, .slice ap F.poly.length cp], .slice b cs.length cb, .int .i64 x] w fun e w' => e = .returned (.int .i64 (horT F x cs cs.length)) ∧ Below w.heap.size w w' := by
  have hml := hx.len
  obtain ⟨W0, hW0⟩ : ∃ W0, W0 = w.alloc (.cells #[.int .i64 F.p, .int .i64 F.k, .slice ap F.poly.length cp] 41) := ⟨_, rfl⟩
  have hbW : Below w.heap.size w W0 := by rw [hW0]; exact (Below.refl _ _).alloc (Nat.le_refl _) _
  have hsW : w.heap.size ≤ W0.heap.size := hbW.size
  have kF : Blk W0 w.heap.size 41 #[.int .i64 F.p, .int .i64 F.k, .slice ap F.poly.length cp] := by rw [hW0]; exact Blk.new _ _ _ rfl
  have hR0 := hR.below hbW
  have hX0 := hx.below hbW
  have HW := Lib.hid hW0
  clear hW0
  go_enter Try.func130, Try.ntmps130
  go_wp2_with fail
  rw [← HW.out]
  go_loopw [7, 12] (fun vv jv wr => ∃ (j : Nat) (y : Int), jv = .int .i64 j ∧ vv = .int .i64 y ∧ j ≤ cs.length ∧ Hid (y = horT F x cs j) ∧ 0 ≤ y ∧ y ≤ 64 ∧ Below W0.heap.size W0 wr) (fun _ jv _ => cs.length - (intOf jv).toNat)
  case atStart => exact ⟨0, 0, rfl, rfl, Nat.zero_le _, by show _ = _; simp [horT], by omega, by omega, Below.refl _ _⟩
  case round =>
    obtain ⟨j, y, rfl, rfl, hj, hy, hy0, hy1, hb⟩ := hrel
    have hsz := hb.size
    by_cases hjl : j < cs.length
    · obtain ⟨gb, ob, rfl, hbb, hcx⟩ := (hX0.below hb).at_ (by omega)
      have hc := hcx j hjl
      have hcr := hm _ (nth_mem hjl)
      obtain ⟨c, hcc⟩ : ∃ c, c = nth cs j := ⟨_, rfl⟩
      rw [← hcc] at hc hcr
      obtain ⟨M, hMM⟩ : ∃ M, M = mulF F.p F.k F.poly y x := ⟨_, rfl⟩
      have hMb := mulF_bd ok y x
      rw [← hMM] at hMb
      have boxes : ∀ (W : World), Below wr.heap.size wr W → (Below wr.heap.size wr W ∧ W.cell? ⟨w.heap.size, 0, none⟩ = some (.int .i64 F.p) ∧ W.cell? ⟨w.heap.size, 1, none⟩ = some (.int .i64 F.k) ∧ W.cell? ⟨w.heap.size, 2, none⟩ = some (.slice ap F.poly.length cp)) := fun _ h =>
        ⟨h, ((kF.below hb kF.lt).below h (kF.below hb kF.lt).lt).cell 0, ((kF.below hb kF.lt).below h (kF.below hb kF.lt).lt).cell 1, ((kF.below hb kF.lt).below h (kF.below hb kF.lt).lt).cell 2⟩
      have hRr := hR0.below hb
      have hmul := fun W h => product_any F ap cp y x W h ok hy0 (by omega) hx0 (by omega)
      have hsum := fun W h => combine_any F ap cp M c 1 W h ok hMb.1 hMb.2 hcr.1 hcr.2 (.inl rfl)
      rw [← hMM] at hmul
      have BX := hide boxes
      have HMUL := hide hmul
      have HSUM := hide hsum
      have HST : Hid (lin 1 F.p F.k M c = horT F x cs (j + 1)) := by show _ = _; rw [horT_succ F x hjl, hst, hMM, hcc, hy.out]
      have hrng := hst_range ok x y c
      rw [hst, ← hMM] at hrng
      clear boxes hmul hsum hcx hcc hMM
      go_upto_region 5 with fail
      go_region_held3 (fun W => Below wr.heap.size wr W ∧ W.cell? ⟨w.heap.size, 0, none⟩ = some (.int .i64 F.p) ∧ W.cell? ⟨w.heap.size, 1, none⟩ = some (.int .i64 F.k) ∧ W.cell? ⟨w.heap.size, 2, none⟩ = some (.slice ap F.poly.length cp))
        (first | exact (unhide BX) _ (Below.refl _ _) | exact (unhide BX) _ ((Below.refl _ _).drew) | exact (unhide BX) _ (by assumption))
        (first
          | (go_at_call 136; refine (unhide HMUL _ ?_).mono ?_; exact hRr.below (And.left (by assumption)); rintro e W1 ⟨rfl, b1⟩; have hB1 := Below.chain (a := wr) (And.left (by assumption)) b1)
          | (go_at_call 135; refine (unhide HSUM _ ?_).mono ?_; exact hRr.below hB1; rintro e W2 ⟨rfl, b2⟩; have hB2 := Below.chain hB1 b2))
      all_goals
        have hb3 := hb.trans (hB2.mono hsz)
        clear BX HMUL HSUM hB1 hB2
        go_wp2
        go_roundw
        case rel => exact ⟨j + 1, _, by go_num, rfl, by omega, by show _ = _; exact HST.out, hrng.1, by omega, hb3⟩
        case measure => simp only [intOf]; omega
    · have hje : j = cs.length := by omega
      have HE := Lib.hid hje
      clear hje
      go_wp2
      go_ret
      exact ⟨ret_int (by rw [hy.out, HE.out]), hbW.trans (hb.mono hsW)⟩

set_option maxRecDepth 100000 in
set_option maxHeartbeats 1600000 in
theorem polynomialWord_any (F : FD) (ap : Option Addr) (cp : Nat) (b : Option Addr) (cb : Nat) (msg : List Int) (n : Nat) (w : World) (hR : Rd w ap F.poly) (ok : F.Ok) (hx : Rd w b msg) (hn : n ≤ 64) (h1 : 1 ≤ msg.length) (hm : ∀ c ∈ msg, 0 ≤ c ∧ c ≤ 1000000) :
    Calls Try.prog 72 #[.agg #[.int .i64 F.p, .int .i64 F.k, .slice ap F.poly.length cp], .slice b msg.length cb, .int .i64 n] w fun e w' => ∃ v, e = .returned v ∧ Own w' w.heap.size v (vals F msg n) ∧ Below w.heap.size w w' := by
  obtain ⟨W0, hW0⟩ : ∃ W0, W0 = w.alloc (.cells #[.int .i64 F.p, .int .i64 F.k, .slice ap F.poly.length cp] 41) := ⟨_, rfl⟩
  have hbW : Below w.heap.size w W0 := by rw [hW0]; exact (Below.refl _ _).alloc (Nat.le_refl _) _
  have hsW : w.heap.size ≤ W0.heap.size := hbW.size
  have kF : Blk W0 w.heap.size 41 #[.int .i64 F.p, .int .i64 F.k, .slice ap F.poly.length cp] := by rw [hW0]; exact Blk.new _ _ _ rfl
  have hR0 := hR.below hbW
  have hX0 := hx.below hbW
  have HW := Lib.hid hW0
  clear hW0
  go_enter Try.func72, Try.ntmps72
  go_wp2_with fail
  rw [← HW.out]
  refine (clone_any b cb msg W0 hX0).mono ?_
  rintro e w1 ⟨v1, rfl, o1, b1⟩
  obtain ⟨g1, c1, rfl, q1, z1, cc1, cd1⟩ := o1.at_len rfl h1
  go_wp2_with fail
  refine (reverse_any g1 c1 W0.heap.size msg w1 o1).mono ?_
  rintro e w2 ⟨rfl, o2, b2⟩
  have hsz1 := b1.size
  have hb2 := b1.trans b2
  have hsz2 := hb2.size
  obtain ⟨cs, hcs⟩ : ∃ cs, cs = msg.reverse := ⟨_, rfl⟩
  have hcl : cs.length = msg.length := by rw [hcs, List.length_reverse]
  have hmr : ∀ c ∈ cs, 0 ≤ c ∧ c ≤ 1000000 := by rw [hcs]; exact fun c hc => hm c (List.mem_reverse.1 hc)
  have hval : ∀ x, horT F x cs cs.length = valF F x msg := fun x => by rw [hcs]; exact horT_rev F x msg
  rw [← hcs] at o2
  have k2 := kF.below hb2 kF.lt
  have HV := hide hval
  have HMR := hide hmr
  have HCL := Lib.hid hcl
  have O2 := Lib.hid o2
  clear hcs hcl hmr hval o2 o1 b1 b2
  go_wp2_with fail
  go_loopw [8, 15] (fun v xv wr => ∃ (x : Nat), xv = .int .i64 x ∧ x ≤ n ∧ Hid (Own wr w2.heap.size v (vals F msg x)) ∧ Below w2.heap.size w2 wr) (fun _ xv _ => n - (intOf xv).toNat)
  case atStart => exact ⟨0, rfl, Nat.zero_le _, Own.nil _ _, Below.refl _ _⟩
  case round =>
    obtain ⟨x, rfl, hxn, ho, hb⟩ := hrel
    have hsz := hb.size
    by_cases hxl : x < n
    · have kr := k2.below hb k2.lt
      have f0 : wr.cell? ⟨w.heap.size, 0, none⟩ = some (.int .i64 F.p) := kr.cell 0
      have f1 : wr.cell? ⟨w.heap.size, 1, none⟩ = some (.int .i64 F.k) := kr.cell 1
      have f2 : wr.cell? ⟨w.heap.size, 2, none⟩ = some (.slice ap F.poly.length cp) := kr.cell 2
      have hcall := valueAt_any F ap cp (some ⟨g1, 0, none⟩) c1 cs x wr ((hR0.below hb2).below hb) ok ((O2.out.below hb (Nat.le_refl _)).rd (n := msg.length) (c := c1)) (by omega) (by omega) (unhide HMR)
      rw [unhide HV x, HCL.out] at hcall
      have hvr := valF_range ok x msg
      obtain ⟨y, hyy⟩ : ∃ y, y = valF F x msg := ⟨_, rfl⟩
      rw [← hyy] at hcall hvr
      have HY := Lib.hid hyy.symm
      clear hyy
      have HC := hide hcall
      clear hcall
      go_wp2_with fail
      refine (unhide HC).mono ?_
      rintro e w3 ⟨rfl, b3⟩
      have o3 := ho.out.below b3 (Nat.le_refl _)
      have hb3 := hb.trans (b3.mono hsz)
      have hsz3 := hb3.size
      go_wp2_with (at_builtin; refine wpList_append_ints rfl (.tmp 18) (.tmp 23) rfl w2.heap.size u8 (vals F msg x) [y] rfl (o3.alloc _) _ 1 1 rfl rfl (Rd.one w3 y _) (by rw [vals_len]; simp; omega) (by simp; omega) ?_; intro v4 w4 o4 g4 _)
      go_roundw
      case rel => exact ⟨x + 1, by go_num, by omega, by show Own _ _ _ _; rw [vals_succ, HY.out]; exact o4, Below.step (hb3.alloc hsz3 _) g4 (o3.alloc _) (Nat.le_refl _) (by simp; omega)⟩
      case measure => simp only [intOf]; omega
    · have hxe : x = n := by omega
      have HE := Lib.hid hxe
      clear hxe
      go_wp2
      go_ret
      exact ⟨_, rfl, by have o := ho.out; rw [HE.out] at o; exact o.mono (by omega), hbW.trans ((hb2.trans (hb.mono hsz2)).mono hsW)⟩
end Go.Proofs.Ytkbppgpegljcoaa
