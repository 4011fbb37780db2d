/-
  Texts joined.
-/
import Derived.Test.YtkiljcbejmiioaaGreatLK3
import Derived.Test.YtkiljcbejmiioaaGreatLK5
import Derived.Test.YtkiljcbejmiioaaGreatLK18
import Derived.Test.YtkiljcbejmiioaaGreatLK19
import Derived.Test.YtkiljcbejmiioaaGreatLK26
import Derived.Test.YtkiljcbejmiioaaGreatLK28
import Derived.Test.YtkiljcbejmiioaaGreatLK29
set_option linter.unusedVariables false
set_option linter.unusedSimpArgs false
set_option maxRecDepth 100000
set_option maxHeartbeats 40000000
namespace Go.Proofs.YtkiljcbejmiioaaGreat
open Go.RowKit Go.Sort Go.Lib
structure Hdr where
 a : Option Addr
 c : Nat
 xs : List Int
def Hdr.val (h : Hdr) : Value := .slice h.a h.xs.length h.c
def Hdr.none : Hdr := ⟨Option.none, 0, []⟩
def hdAt (hs : List Hdr) (i : Nat) : Hdr := hs.getD i Hdr.none
theorem hdAt_lt {hs : List Hdr} {i : Nat} (h : i < hs.length) : hdAt hs i = hs[i] := by simp [hdAt, h]
def OwnR (w0 w : World) (v : Value) (hs : List Hdr) : Prop := hs.length ≤ 1048576 ∧ w.ownsRow w0.heap.size 28 1 v hs.length (hs.map Hdr.val) ∧ (∀ h ∈ hs, Rd w0 h.a h.xs) ∧ Below w0.heap.size w0 w
theorem OwnR.rd {w0 w : World} {v : Value} {hs : List Hdr} (h : OwnR w0 w v hs) (i : Nat) : Rd w0 (hdAt hs i).a (hdAt hs i).xs := by
 by_cases hi : i < hs.length
 · rw [hdAt_lt hi]; exact h.2.2.1 _ (List.getElem_mem hi)
 · rw [hdAt, List.getD_eq_getElem?_getD, List.getElem?_eq_none (by omega)]
   exact Rd.nil _ _
theorem OwnR.form {w0 w : World} {v : Value} {hs : List Hdr} (h : OwnR w0 w v hs) : (v = .slice Option.none 0 0 ∧ hs = []) ∨ ∃ g c, v = .slice (some ⟨g, 0, Option.none⟩) hs.length c ∧ w0.heap.size ≤ g ∧ g < w.heap.size := by
 rcases h.2.1.2 with ⟨rfl, h0⟩ | ⟨g, cap, cur, rfl, hb, hg, _⟩
 · exact .inl ⟨rfl, List.eq_nil_of_length_eq_zero h0⟩
 · exact .inr ⟨g, cap, rfl, hb, (Array.getElem?_eq_some_iff.1 hg).1⟩
theorem OwnR.rds {w0 w : World} {a : Option Addr} {n c : Nat} {hs : List Hdr} (h : OwnR w0 w (.slice a n c) hs) : RdS w a (hs.map Hdr.xs) := by
 refine ⟨by rw [List.length_map]; have := h.1; omega, fun h0 => ?_⟩
 rw [List.length_map] at h0
 rcases h.form with ⟨_, e⟩ | ⟨g, cc, e, _, _⟩
 · rw [e] at h0; simp at h0
 · injection e with e1 e2 e3
   subst e1
   subst e2
   refine ⟨g, 0, rfl, fun i hi => ?_⟩
   rw [List.length_map] at hi
   have hx : nthL (hs.map Hdr.xs) i = (hdAt hs i).xs := by rw [nthL_lt (by rw [List.length_map]; exact hi), List.getElem_map, hdAt_lt hi]
   refine ⟨(hdAt hs i).a, (hdAt hs i).c, ?_, ?_⟩
   · rw [Nat.zero_add, h.2.1.cellAt i (by omega), List.getElem?_map, List.getElem?_eq_getElem hi, hx, hdAt_lt hi]; rfl
   · rw [hx]; exact (h.rd i).below h.2.2.2
theorem swoL (hs : List Hdr) : SWO (ltOf fun i j : Nat => cmpL (hdAt hs i).xs (hdAt hs j).xs) := by
 have key : ∀ x y, ltOf (fun i j : Nat => cmpL (hdAt hs i).xs (hdAt hs j).xs) x y = true ↔ LtL (hdAt hs x).xs (hdAt hs y).xs := fun x y => by rw [ltOf, decide_eq_true_eq]; rfl
 have nkey : ∀ x y, ltOf (fun i j : Nat => cmpL (hdAt hs i).xs (hdAt hs j).xs) x y = false ↔ ¬ LtL (hdAt hs x).xs (hdAt hs y).xs := fun x y => by rw [← key, Bool.not_eq_true]
 refine ⟨fun x => (nkey _ _).2 (LtL.irrefl _), fun x y z h k => (key _ _).2 (((key _ _).1 h).trans ((key _ _).1 k)), fun x y z h k => (nkey _ _).2 fun h3 => ?_⟩
 have h1 := (nkey _ _).1 h
 have h2 := (nkey _ _).1 k
 rcases ltL_tri (hdAt hs x).xs (hdAt hs y).xs with h4 | h4 | h4
 · exact h1 h4
 · rw [h4] at h3; exact h2 h3
 · exact h2 (h4.trans h3)
end Go.Proofs.YtkiljcbejmiioaaGreat
namespace Go.Proofs.YtkiljcbejmiioaaGreat
open Go.RowKit Go.Lib
theorem hdrs_of {w : World} {B : Nat} : ∀ {vs : List Value} {xss : List (List Int)}, vs.length = xss.length → (∀ (i : Nat) (x : Value), vs[i]? = some x → Own w B x (nthL xss i)) → ∃ hs : List Hdr, hs.map Hdr.val = vs ∧ hs.map Hdr.xs = xss ∧ ∀ h ∈ hs, Rd w h.a h.xs
 | [], [], _, _ => ⟨[], rfl, rfl, by simp⟩
 | [], _ :: _, h, _ => by simp at h
 | _ :: _, [], h, _ => by simp at h
 | v :: vs, xs :: xss, hl, hi => by
  obtain ⟨hs, h1, h2, h3⟩ := hdrs_of (vs := vs) (xss := xss) (by simpa using hl) fun i x hx => by
   have := hi (i + 1) x (by simpa using hx)
   simpa [nthL] using this
  have h0 := hi 0 v rfl
  obtain ⟨a, c, rfl, r, _⟩ := h0.form
  have e : nthL (xs :: xss) 0 = xs := rfl
  rw [e] at r ⊢
  exact ⟨⟨a, c, xs⟩ :: hs, by rw [List.map_cons, h1]; rfl, by rw [List.map_cons, h2], fun h hh => by
   rcases List.mem_cons.1 hh with rfl | hh
   · exact r
   · exact h3 h hh⟩
end Go.Proofs.YtkiljcbejmiioaaGreat
