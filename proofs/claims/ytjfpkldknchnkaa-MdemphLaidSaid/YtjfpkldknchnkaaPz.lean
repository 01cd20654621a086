/- What the document's Pairs keeps in memory. -/
import Derived.Test.YtjfpkldknchnkaaPu
namespace Go.Proofs.Ytjfpkldknchnkaa.Me
open Go.RowKit Go.Proofs.YtjfpkldknchnkaaW.PrintWords Go.Proofs.YtjfpkldknchnkaaW.PrintLast Go.Proofs.YtjfpkldknchnkaaW.PrintMore
attribute [local go_sem] max2_int min2_int max_two min_two max_three min_three max_four min_four
set_option linter.unusedVariables false
set_option linter.unusedSimpArgs false
def kI : Kd Int := flat 1 (fun x => [.int .i64 x]) (fun _ => rfl) (fun x u hu => by simp at hu; rw [hu]; rfl)
def kL : Kd Bool := flat 1 (fun x => [.bool x]) (fun _ => rfl) (fun x u hu => by simp at hu; rw [hu]; rfl)
theorem info3a : (Try.prog.info? 3).map (fun i => (i.zero, i.size, i.bytes)) = some (some (.int .i64 0), 1, 8) := by kernel_rfl
theorem info4a : (Try.prog.info? 4).map (fun i => (i.zero, i.size, i.bytes)) = some (some (.bool false), 1, 1) := by kernel_rfl
/-- A cell of a row of single cells. -/
theorem one_cell {α : Type} {enc : α → List Value} {hl : ∀ x, (enc x).length = 1} {h1 : ∀ x, ∀ u ∈ enc x, u.oneCell' = true} {e : Nat} {w : World} {ok : Nat → Prop} {g n cap : Nat} {xs : List α} (h : (flat 1 enc hl h1).R e w 0 ok (.slice (some ⟨g, 0, none⟩) n cap) xs) {i : Nat} {x : α} {u : Value} (hx : xs[i]? = some x) (hu : enc x = [u]) : w.cell? ⟨g, i, none⟩ = some u := by
  have hc := (Kd.R_reads' h).2.2
  have hil := (List.getElem?_eq_some_iff.1 hx).1
  obtain ⟨ad, hA, hr⟩ := hc.2.2 (by omega)
  injection hA with hA
  subst hA
  obtain ⟨c, _, hk, hcell⟩ := hr i x hx
  have h := hcell 0 u (by rw [show c = enc x from hk, hu]; rfl)
  rw [add_plain] at h
  simpa [flat] using h
theorem one_block {α : Type} {enc : α → List Value} {hl : ∀ x, (enc x).length = 1} {h1 : ∀ x, ∀ u ∈ enc x, u.oneCell' = true} {e : Nat} {w : World} {ok : Nat → Prop} {g n cap : Nat} {xs : List α} (h : (flat 1 enc hl h1).R e w 0 ok (.slice (some ⟨g, 0, none⟩) n cap) xs) : ∃ cs, w.heap[g]? = some (.cells cs e (0, 0)) := by
  obtain ⟨_, _, _, q, hq, cs, hcs⟩ := (Kd.R_bound h).1 g rfl
  rcases List.mem_cons.1 hq with e1 | e1
  · exact ⟨cs, by rw [← e1]; exact hcs⟩
  · cases e1
theorem one_set {α : Type} {enc : α → List Value} {hl : ∀ x, (enc x).length = 1} {h1 : ∀ x, ∀ u ∈ enc x, u.oneCell' = true} {e : Nat} {w : World} {ok : Nat → Prop} {g n cap : Nat} {xs : List α} (h : (flat 1 enc hl h1).R e w 0 ok (.slice (some ⟨g, 0, none⟩) n cap) xs) {i : Nat} (hi : i < n) {x : α} {u : Value} (hu : enc x = [u]) : (flat 1 enc hl h1).R e (w.setCell ⟨g, i, none⟩ u) 0 ok (.slice (some ⟨g, 0, none⟩) n cap) (xs.set i x) := by
  have hn := (Kd.R_reads' h).1
  obtain ⟨y, hy⟩ : ∃ y, xs[i]? = some y := ⟨_, List.getElem?_eq_getElem (by omega)⟩
  obtain ⟨v, hv⟩ : ∃ v, enc y = [v] := by
    have := hl y
    match hq : enc y, this with
    | [v], _ => exact ⟨v, rfl⟩
  have hs := (Kd.R_seg (okp := fun _ => False) h (i : Int) (by omega) (by omega) (c := [v]) (seg := [u]) (j := 0) rfl (fun j u' hu' => by
    have hj : j = 0 := by
      have := (List.getElem?_eq_some_iff.1 hu').1
      simp at this
      omega
    subst hj
    simp at hu'
    subst hu'
    have := one_cell h hy hv
    simpa [flat] using this) (by simp [flat]) (x' := x) (by show _ = enc x; rw [hu]; rfl) (fun _ h => h.elim)).1
  rw [Int.toNat_natCast, show i * (flat 1 enc hl h1).sz + 0 = i by simp [flat]] at hs
  exact hs
/-- The document's rows in memory. -/
structure AR (w1 W : World) (gF gT gB n cF cT cB : Nat) (F T : List Int) (B : List Bool) (v8 : Value) (o : List Pr) : Prop where
  rF : kI.R 3 W 0 (fun j => w1.heap.size ≤ j) (.slice (some ⟨gF, 0, none⟩) n cF) F
  rT : kI.R 3 W 0 (fun j => w1.heap.size ≤ j) (.slice (some ⟨gT, 0, none⟩) n cT) T
  rB : kL.R 4 W 0 (fun j => w1.heap.size ≤ j) (.slice (some ⟨gB, 0, none⟩) n cB) B
  rO : kV.R 40 W 0 (fun j => w1.heap.size ≤ j) v8 o
  ne : gF ≠ gT
  lF : F.length = n
  lT : T.length = n
  lB : B.length = n
  bel : Below w1.heap.size w1 W
theorem AR.below {w1 W W' : World} {gF gT gB n cF cT cB : Nat} {F T : List Int} {B : List Bool} {v8 : Value} {o : List Pr} (h : AR w1 W gF gT gB n cF cT cB F T B v8 o) (hb : Below W.heap.size W W') : AR w1 W' gF gT gB n cF cT cB F T B v8 o :=
  ⟨Kd.R_below h.rF hb, Kd.R_below h.rT hb, Kd.R_below h.rB hb, Kd.R_below h.rO hb, h.ne, h.lF, h.lT, h.lB, h.bel.trans (hb.mono h.bel.size)⟩
theorem AR.setF {w1 W : World} {gF gT gB n cF cT cB : Nat} {F T : List Int} {B : List Bool} {v8 : Value} {o : List Pr} (h : AR w1 W gF gT gB n cF cT cB F T B v8 o) {i : Nat} (hi : i < n) (x : Int) : AR w1 (W.setCell ⟨gF, i, none⟩ (.int .i64 x)) gF gT gB n cF cT cB (F.set i x) T B v8 o := by
  obtain ⟨cs, hcs⟩ := one_block h.rF
  exact ⟨one_set h.rF hi rfl, kd_turn h.rT (fun k hk hlt => by
    have hkT : k = gT := by simpa [Value.ownBlock] using hk.symm
    subst hkT
    obtain ⟨cs2, hcs2⟩ := one_block h.rT
    exact (blk_far hcs2 (fun e => h.ne e.symm) _).trans hcs2.symm), Kd.R_set h.rB hcs (by decide) i _, Kd.R_set h.rO hcs (by decide) i _, h.ne, by rw [List.length_set]; exact h.lF, h.lT, h.lB, h.bel.setCell (p := ⟨gF, i, none⟩) (h.rF.1 gF rfl) _⟩
theorem AR.setT {w1 W : World} {gF gT gB n cF cT cB : Nat} {F T : List Int} {B : List Bool} {v8 : Value} {o : List Pr} (h : AR w1 W gF gT gB n cF cT cB F T B v8 o) {i : Nat} (hi : i < n) (x : Int) : AR w1 (W.setCell ⟨gT, i, none⟩ (.int .i64 x)) gF gT gB n cF cT cB F (T.set i x) B v8 o := by
  obtain ⟨cs, hcs⟩ := one_block h.rT
  exact ⟨kd_turn h.rF (fun k hk hlt => by
    have hkT : k = gF := by simpa [Value.ownBlock] using hk.symm
    subst hkT
    obtain ⟨cs2, hcs2⟩ := one_block h.rF
    exact (blk_far hcs2 (fun e => h.ne e) _).trans hcs2.symm), one_set h.rT hi rfl, Kd.R_set h.rB hcs (by decide) i _, Kd.R_set h.rO hcs (by decide) i _, h.ne, h.lF, by rw [List.length_set]; exact h.lT, h.lB, h.bel.setCell (p := ⟨gT, i, none⟩) (h.rT.1 gT rfl) _⟩
theorem AR.setB {w1 W : World} {gF gT gB n cF cT cB : Nat} {F T : List Int} {B : List Bool} {v8 : Value} {o : List Pr} (h : AR w1 W gF gT gB n cF cT cB F T B v8 o) {i : Nat} (hi : i < n) (x : Bool) : AR w1 (W.setCell ⟨gB, i, none⟩ (.bool x)) gF gT gB n cF cT cB F T (B.set i x) v8 o := by
  obtain ⟨cs, hcs⟩ := one_block h.rB
  exact ⟨Kd.R_set h.rF hcs (by decide) i _, Kd.R_set h.rT hcs (by decide) i _, one_set h.rB hi rfl, Kd.R_set h.rO hcs (by decide) i _, h.ne, h.lF, h.lT, by rw [List.length_set]; exact h.lB, h.bel.setCell (p := ⟨gB, i, none⟩) (h.rB.1 gB rfl) _⟩
theorem AR.cF {w1 W : World} {gF gT gB n cF cT cB : Nat} {F T : List Int} {B : List Bool} {v8 : Value} {o : List Pr} (h : AR w1 W gF gT gB n cF cT cB F T B v8 o) {i : Nat} {x : Int} (hx : F[i]? = some x) : W.cell? ⟨gF, i, none⟩ = some (.int .i64 x) := one_cell h.rF hx rfl
theorem AR.cT {w1 W : World} {gF gT gB n cF cT cB : Nat} {F T : List Int} {B : List Bool} {v8 : Value} {o : List Pr} (h : AR w1 W gF gT gB n cF cT cB F T B v8 o) {i : Nat} {x : Int} (hx : T[i]? = some x) : W.cell? ⟨gT, i, none⟩ = some (.int .i64 x) := one_cell h.rT hx rfl
theorem AR.cB {w1 W : World} {gF gT gB n cF cT cB : Nat} {F T : List Int} {B : List Bool} {v8 : Value} {o : List Pr} (h : AR w1 W gF gT gB n cF cT cB F T B v8 o) {i : Nat} {x : Bool} (hx : B[i]? = some x) : W.cell? ⟨gB, i, none⟩ = some (.bool x) := one_cell h.rB hx rfl
theorem AR.frz {w1 W : World} {gF gT gB n cF cT cB : Nat} {F T : List Int} {B : List Bool} {v8 : Value} {o : List Pr} (h : AR w1 W gF gT gB n cF cT cB F T B v8 o) (j : Nat) : W.frozen? ⟨gF, j, none⟩ = false ∧ W.frozen? ⟨gT, j, none⟩ = false ∧ W.frozen? ⟨gB, j, none⟩ = false := by
  obtain ⟨c1, h1⟩ := one_block h.rF
  obtain ⟨c2, h2⟩ := one_block h.rT
  obtain ⟨c3, h3⟩ := one_block h.rB
  exact ⟨blk_frozen h1 j, blk_frozen h2 j, blk_frozen h3 j⟩
end Go.Proofs.Ytjfpkldknchnkaa.Me
