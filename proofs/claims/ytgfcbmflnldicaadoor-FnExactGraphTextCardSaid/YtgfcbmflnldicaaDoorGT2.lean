/-
  Texts joined.
-/
import Derived.Deep.DeepCutAuto
import Derived.Deep.DrawnRows
import Derived.Deep.RegionHeld3
import Derived.Laws.IdiomStrings
import Derived.Lib.ItoaLen
import Derived.Lib.ItoaNum
import Derived.OwnWalk
import Derived.Test.YtgfcbmflnldicaaDoorGT1
set_option linter.unusedVariables false
set_option linter.unusedSimpArgs false
set_option maxRecDepth 100000
set_option maxHeartbeats 40000000
namespace Go.Proofs.YtgfcbmflnldicaaDoor
open Go.RowKit
attribute [local go_sem ↓] Go.wp_at_zero Go.wp_at_succ
theorem dec_small {n : Nat} (h : n < 10) : Lib.decDigits n = [UInt8.ofNat (48 + n)] := by rw [Lib.decDigits, dif_pos h]
theorem dec_len {n : Nat} (h : n < 100) : (Lib.decDigits n).length ≤ 2 := by
 rw [Lib.decDigits]
 split
 · simp
 · rw [dec_small (by omega)]; simp
theorem dec_pos (n : Nat) : 0 < (Lib.decDigits n).length := by
 rw [Lib.decDigits]
 split <;> simp
def RelD (n v : Nat) (ds : List UInt8) : Prop := (0 < v ∧ Lib.decDigits v ++ ds = Lib.decDigits n) ∨ (v = 0 ∧ ((n = 0 ∧ ds = []) ∨ (0 < n ∧ ds = Lib.decDigits n)))
theorem RelD.start (n : Nat) : RelD n n [] := by
 rcases Nat.eq_zero_or_pos n with h | h
 · exact .inr ⟨h, .inl ⟨h, rfl⟩⟩
 · exact .inl ⟨h, by simp⟩
theorem RelD.step {n v : Nat} {ds : List UInt8} (h : RelD n v ds) (hv : 0 < v) (hn : 0 < n) : RelD n (v / 10) (UInt8.ofNat (48 + v % 10) :: ds) := by
 rcases h with ⟨_, h⟩ | ⟨h, _⟩
 · rw [Lib.decDigits] at h
   split at h
   · rename_i h10
     refine .inr ⟨Nat.div_eq_of_lt h10, .inr ⟨hn, ?_⟩⟩
     rw [← h, Nat.mod_eq_of_lt h10]
     rfl
   · rename_i h10
     refine .inl ⟨Nat.div_pos (by omega) (by omega), ?_⟩
     rw [← h]
     simp
 · omega
theorem RelD.len {n v : Nat} {ds : List UInt8} (h : RelD n v ds) (hn : n < 100) : ds.length ≤ 2 := by
 have h2 := dec_len hn
 rcases h with ⟨_, h⟩ | ⟨_, ⟨_, h⟩ | ⟨_, h⟩⟩
 · rw [← h] at h2; simp at h2; omega
 · rw [h]; simp
 · rw [h]; exact h2
theorem Tryd.infoByte : (Tryd.prog.info? 5).map (fun i => (i.zero, i.size, i.bytes)) = some (some (.int .u8 0), 1, 1) := by kernel_rfl
theorem row_mono {w : World} {B B' n : Nat} {e : TypeId} {v : Value} {xs : List Value} (h : w.ownsRow B e 1 v n xs) (hB : B' ≤ B) : w.ownsRow B' e 1 v n xs := by
 obtain ⟨h1, h2⟩ := h
 refine ⟨h1, ?_⟩
 rcases h2 with h2 | ⟨g, cap, cur, e, hb, r⟩
 · exact .inl h2
 · exact .inr ⟨g, cap, cur, e, Nat.le_trans hB hb, r⟩
theorem row_one (w : World) (x : Value) : (w.alloc (.cells #[x] 5)).ownsRow w.heap.size 5 1 (.slice (some ⟨w.heap.size, 0, none⟩) 1 1) 1 [x] :=
 ⟨by simp, .inr ⟨w.heap.size, 1, #[x], rfl, Nat.le_refl _, heap_alloc_new w _, Nat.le_refl _, by decide, rfl, by simp⟩⟩
theorem byteCells_get {ds : List UInt8} {j : Nat} (h : j < ds.length) : (Lib.byteCells ds)[j]? = some (.int .u8 (ds[j].toNat : Int)) := by simp [Lib.byteCells, h]
theorem byteCells_one {ds : List UInt8} : ∀ u ∈ Lib.byteCells ds, u.oneCell' = true := by
 intro u hu
 obtain ⟨k, _, rfl⟩ := List.mem_map.1 hu
 rfl
theorem specDec_any (n : Nat) (hn : n < 100) (w : World) :
    Calls Tryd.prog 25 #[.int .i64 n] w fun e w' => e = .returned (.string ⟨(Lib.decDigits n).toArray⟩) ∧ Below w.heap.size w w' := by
 obtain ⟨i0, hi, hz0, hz1, hz2⟩ := info_parts Tryd.infoByte
 obtain ⟨W0, hW0⟩ : ∃ z, z = w.alloc (.cells #[] 5) := ⟨_, rfl⟩
 have b0 : Below w.heap.size w W0 := by rw [hW0]; exact (Below.refl _ _).alloc (Nat.le_refl _) _
 have r0 : W0.ownsRow w.heap.size 5 1 (.slice (some ⟨w.heap.size, 0, none⟩) 0 0) 0 [] := by rw [hW0]; exact World.ownsRow_made w #[] 0 (Nat.le_refl _) (Nat.zero_le _) (by simp)
 have R0 := hide r0
 have HW := Lib.hid hW0
 clear hW0 r0
 go_enter Tryd.func25, Tryd.ntmps25
 go_upto_region 2 with fail
 rw [← HW.out]
 go_wp2_with fail
 go_loopw [3, 4, 5] (fun sv vv dv wr => ∃ (v : Nat) (ds : List UInt8) (g c : Nat), vv = .int .i64 v ∧ sv = .slice (some ⟨g, 0, none⟩) ds.length c ∧ v ≤ n ∧ Hid (RelD n v ds) ∧ Hid (wr.ownsRow w.heap.size 5 1 sv ds.length (Lib.byteCells ds)) ∧ Below w.heap.size w wr) (fun _ vv _ _ => (intOf vv).toNat)
 case atStart => exact ⟨n, [], w.heap.size, 0, rfl, rfl, Nat.le_refl _, RelD.start n, R0, b0⟩
 case round =>
  obtain ⟨v, ds, g, c, rfl, rfl, hv, hR, ho, hb⟩ := hrel
  rename World => wo
  have hds := hR.out.len hn
  have hbz := hb.size
  by_cases hv0 : 0 < v
  · have q0 : ((v : Int) != 0) = true := by rw [bne_iff_ne]; omega
    have t1 : Int.tmod (v : Int) 10 = ((v % 10 : Nat) : Int) := by rw [Int.tmod_eq_emod_of_nonneg (by omega)]; rfl
    have t2 : Int.tdiv (v : Int) 10 = ((v / 10 : Nat) : Int) := by rw [Int.tdiv_eq_ediv_of_nonneg (by omega)]; rfl
    obtain ⟨ch, hch⟩ : ∃ ch : Int, ch = 48 + (v : Int) % 10 := ⟨_, rfl⟩
    have hu : ([Value.int .u8 ch] ++ Lib.byteCells ds) = Lib.byteCells (UInt8.ofNat (48 + v % 10) :: ds) := by
     have h1 : ((UInt8.ofNat (48 + v % 10)).toNat : Int) = ch := by rw [UInt8.toNat_ofNat', hch]; omega
     rw [Lib.byteCells, Lib.byteCells, List.map_cons, h1]
     rfl
    have HU := Lib.hid hu
    have HCH := Lib.hid hch
    have hx := fun (W : World) (hb : Below wo.heap.size wo W) (j : Nat) (u : Value) (hj : (Lib.byteCells ds)[j]? = some u) => (hb.cell (p := (⟨g, 0, none⟩ : Addr).add j) (by rw [Addr.add_lit]; exact (ho.out.lt g rfl).2)).trans (ho.out.cells rfl j u hj)
    have HXC := hide hx
    have hl : (Lib.byteCells ds).length = ds.length := by simp [Lib.byteCells]
    have HLN := Lib.hid hl
    have hR2 := hR.out.step hv0 (by omega)
    have HR2 := Lib.hid hR2
    clear hch hu hx hl hR ho hR2
    go_wp2_with (at_builtin; rw [← HCH.out]; refine wpList_append_own_at _ rfl (.tmp 21) (.tmp 22) 58 rfl wo.heap.size 5 i0 (.int .u8 0) 1 1 Tryd.underlying58 hi hz0 hz1 hz2 rfl (by omega) _ 1 [.int .u8 ch] rfl (row_one wo _) ⟨g, 0, none⟩ ds.length c (Lib.byteCells ds) rfl (by rw [HLN.out]; omega) (unhide HXC _ ((Below.refl _ _).alloc (Nat.le_refl _) _)) byteCells_one (by unfold maxLen; omega) (by omega) (by simp) ?_; intro v5 w5 o5 g5 n5 _)
    rw [HU.out] at o5
    have hl5 : (UInt8.ofNat (48 + v % 10) :: ds).length = 1 + ds.length := by rw [List.length_cons]; omega
    have b5 : Below wo.heap.size wo w5 := ((Below.refl _ _).alloc (Nat.le_refl _) _).grown g5 (by simp) (fun q hq => Nat.le_of_eq (Option.some.inj hq))
    rw [← hl5] at o5
    obtain ⟨g6, c6, rfl⟩ : ∃ g6 c6, v5 = .slice (some ⟨g6, 0, none⟩) (UInt8.ofNat (48 + v % 10) :: ds).length c6 := by
     rcases o5.2 with ⟨e, h0⟩ | ⟨g', cap, cur, e, _⟩
     · simp at h0
     · exact ⟨g', cap, e⟩
    have O5 := hide (row_mono o5 (by omega))
    clear o5 g5 n5
    go_roundw
    case rel => exact ⟨v / 10, _, g6, c6, by go_num, rfl, by omega, HR2.out, O5.out, hb.trans (b5.mono hbz)⟩
    case measure => simp only [intOf]; omega
  · have q0 : ((v : Int) != 0) = false := by rw [bne_eq_false_iff_eq]; omega
    have hcv := fun (h0 : 0 < n) => run_convert_bytes_back (P := Tryd.prog) wo 58 9 5 ⟨g, 0, none⟩ c ds Tryd.underlying58 Tryd.underlying5 Tryd.underlying9 (fun j hj => ho.out.cells (g := g) rfl j _ (byteCells_get hj))
    rcases hR.out with ⟨h, _⟩ | ⟨_, ⟨h0, hd⟩ | ⟨h0, hd⟩⟩
    · exact absurd h hv0
    · have hl0 : ds.length = 0 := by rw [hd]; rfl
      have q1 : ((ds.length : Int) == 0) = true := by rw [hl0]; rfl
      clear hcv hd
      go_wp2_with fail
      go_ret
      subst h0
      exact ⟨by rw [dec_small (by omega : 0 < 10)]; rfl, hb⟩
    · have hcv := hcv h0
      have hl0 := dec_pos n
      rw [← hd] at hl0
      have q1 : ((ds.length : Int) == 0) = false := by rw [beq_eq_false_iff_ne]; omega
      have q2 : ¬ (n : Int) < 0 := by omega
      have HD := Lib.hid hd
      clear hd
      go_wp2_with fail
      go_ret
      rw [← HD.out]
      exact ⟨rfl, hb⟩
end Go.Proofs.YtgfcbmflnldicaaDoor
