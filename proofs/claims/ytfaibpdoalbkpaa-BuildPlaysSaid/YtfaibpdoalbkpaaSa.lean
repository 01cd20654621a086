/- Same: two equal lists of nodes. -/
import Derived.Test.YtfaibpdoalbkpaaDe
namespace Go.Proofs.Ytfaibpdoalbkpaa.Bu
open Go.RowKit Go.Proofs.YtfaibpdoalbkpaaW.PrintWords Go.Proofs.YtfaibpdoalbkpaaW.PrintLast Go.Proofs.YtfaibpdoalbkpaaW.PrintMore
attribute [local go_sem] max2_int min2_int max_two min_two max_three min_three max_four min_four
set_option linter.unusedVariables false
set_option linter.unusedSimpArgs false
theorem c_at {w : World} {ad : Addr} {n : Nat} {xs : List Nd} (h : kN.C w (some ad) n xs) {i : Nat} {y : Nd} (hy : xs[i]? = some y) :
    w.cell? (ad.add (i * 4)) = some (.int .u8 y.k) ∧ w.cell? ⟨(ad.add (i * 4)).block, (ad.add (i * 4)).off + 1, none⟩ = some (.int .i64 y.f) ∧ w.cell? ⟨(ad.add (i * 4)).block, (ad.add (i * 4)).off + 2, none⟩ = some (.int .i64 y.t) ∧
      w.cell? ⟨(ad.add (i * 4)).block, (ad.add (i * 4)).off + 3, none⟩ = some (.int .i64 y.d) := by
  have hl := (List.getElem?_eq_some_iff.1 hy).1
  obtain ⟨ad', hA, hr⟩ := h.2.2 (by have := h.1; omega)
  injection hA with hA
  subst hA
  obtain ⟨c, _, hc, hcell⟩ := hr i y hy
  have e' : ∀ j u, ((ndc y).toList)[j]? = some u → w.cell? ((ad.add (i * 4)).add j) = some u := fun j u h => by
    rw [Go.Deep.add_add]
    exact hcell j u (by rw [show c = (ndc y).toList from hc]; exact h)
  exact ⟨e' 0 _ rfl, e' 1 _ rfl, e' 2 _ rfl, e' 3 _ rfl⟩
def SameP (w : World) (e : Ending) (w' : World) : Prop := e = .returned (.bool true) ∧ Below w.heap.size w w'
set_option maxRecDepth 100000 in
set_option maxHeartbeats 4000000 in
theorem same_c (A A' : Option Addr) (n c c' : Nat) (l : List Nd) (w : World) (hX : kN.C w A n l) (hY : kN.C w A' n l) : Calls Try.prog 14 #[.slice A n c, .slice A' n c'] w fun e w' => SameP w e w' := by
  have HX := Aside0.mk hX
  have HY := Aside0.mk hY
  have hln := hX.1
  have hn8 := hX.2.1
  have HLN := Aside0.mk hln
  clear hX hY hln
  go_enter Try.func14, Try.ntmps14
  go_upto_block 0 with (fail)
  go_wp2_with (fail)
  go_loopg [5] n (fun gk v5 wr => ∃ (k : Nat), v5 = .int .i64 (k : Int) ∧ Aside0 (k + gk = n) ∧ Aside0 (Below w.heap.size w wr))
  case atStart => exact ⟨0, rfl, ⟨by omega⟩, ⟨Below.refl _ _⟩⟩
  case round =>
    obtain ⟨k, rfl, HK, HB⟩ := hrel
    by_cases hkn : k < n
    · obtain ⟨gn, rfl⟩ : ∃ gn, gk = gn + 1 := ⟨gk - 1, by have := HK.out; omega⟩
      obtain ⟨y, hy⟩ : ∃ y, l[k]? = some y := ⟨_, List.getElem?_eq_getElem (by rw [HLN.out]; exact hkn)⟩
      obtain ⟨ad, hA, _⟩ := HX.out.2.2 (by omega)
      obtain ⟨ad', hA', _⟩ := HY.out.2.2 (by omega)
      subst hA
      subst hA'
      obtain ⟨a0, a1, a2, a3⟩ := c_at (Kd.C_below HX.out HB.out) hy
      obtain ⟨b0, b1, b2, b3⟩ := c_at (Kd.C_below HY.out HB.out) hy
      have p0 : (0 : Int) ≤ (k : Int) := by omega
      have p1 : (k : Int) < (n : Int) := by omega
      have hw1 : IntKind.i64.wrap ((k : Int) + 1) = (k : Int) + 1 := IntWalk.i64_in _ (by omega)
      clear hy
      go_upto_region 6 with (fail)
      go_quiet (fail)
      go_wp2_with (fail)
      go_roundg gn
      case measure => exact Nat.lt_succ_self _
      case rel => exact ⟨k + 1, by simp, ⟨by have := HK.out; omega⟩, ⟨pw_below_drewN HB.out _⟩⟩
    · have q : ¬ ((k : Int) < (n : Int)) := by omega
      clear HK
      go_wp2_with (fail)
      go_ret
      exact ⟨rfl, HB.out⟩
end Go.Proofs.Ytfaibpdoalbkpaa.Bu
