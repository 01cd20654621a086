/- What mdemph.Pairs keeps in memory. -/
import Derived.Test.YtjfpkldknchnkaaPm
import Derived.Test.YtjfpkldknchnkaaSr
import Derived.Test.YtjfpkldknchnkaaMf
import Derived.Test.YtjfpkldknchnkaaFi
namespace Go.Proofs.Ytjfpkldknchnkaa.Me
open Go.RowKit Go.Proofs.YtjfpkldknchnkaaW.PrintWords Go.Proofs.YtjfpkldknchnkaaW.PrintLast Go.Proofs.YtjfpkldknchnkaaW.PrintMore
attribute [local go_sem] max2_int min2_int max_two min_two max_three min_three max_four min_four
set_option linter.unusedVariables false
set_option linter.unusedSimpArgs false
def kQ : Kd Nat := flat 1 (fun p => [pv p]) (fun _ => rfl) (fun x u hu => by simp at hu; rw [hu]; rfl)
def RQ (p : Nat) (cs : List Value) : Prop := cs = [pv p]
theorem info60 : (Try.prog.info? 60).map (fun i => (i.zero, i.size, i.bytes)) = some (some (.pointer none), 1, 8) := by kernel_rfl
theorem info60s : (Try.prog.info? 60).map (·.size) = some 1 := by kernel_rfl
def okL (y : Lf) : Prop := 0 ≤ y.r.n ∧ y.r.n ≤ 1048576 ∧ 0 ≤ y.f ∧ y.f ≤ y.t ∧ y.t ≤ 1048576
/-- The stack and what has come, in memory. -/
structure PSt (w W : World) (L : List Lf) (ps : List Nat) (v4 : Value) (o : List Pr) (v3 : Value) : Prop where
  rO : kV.R 39 W 0 (fun j => w.heap.size ≤ j) v3 o
  rS : kQ.R 60 W 0 (fun j => w.heap.size ≤ j) v4 ps
  pl : ps.length = L.length
  pc : ∀ (k p : Nat) (y : Lf), ps[k]? = some p → L[k]? = some y → W.heap[p]? = some (.cells (lfc y) 62 (0, 0))
  pg : ∀ p, p ∈ ps → w.heap.size ≤ p
  nd : ps.Nodup
  ok : ∀ y, y ∈ L → okL y
  bel : Below w.heap.size w W
theorem pair_at {L : List Lf} {ps : List Nat} (h : ps.length = L.length) {k : Nat} {p : Nat} (hp : ps[k]? = some p) : ∃ y, L[k]? = some y := by
  obtain ⟨h1, _⟩ := List.getElem?_eq_some_iff.1 hp
  exact ⟨_, List.getElem?_eq_getElem (by omega)⟩
theorem PSt.pcm {w W : World} {L : List Lf} {ps : List Nat} {v4 v3 : Value} {o : List Pr} (h : PSt w W L ps v4 o v3) {p : Nat} (hp : p ∈ ps) : ∃ y, W.heap[p]? = some (.cells (lfc y) 62 (0, 0)) := by
  obtain ⟨k, hk⟩ := List.getElem?_of_mem hp
  obtain ⟨y, hy⟩ := pair_at h.pl hk
  exact ⟨y, h.pc k p y hk hy⟩
theorem PSt.below {w W W' : World} {L : List Lf} {ps : List Nat} {v4 v3 : Value} {o : List Pr} (h : PSt w W L ps v4 o v3) (hb : Below W.heap.size W W') : PSt w W' L ps v4 o v3 where
  rO := Kd.R_below h.rO hb
  rS := Kd.R_below h.rS hb
  pl := h.pl
  pc k p y hp hy := (hb.block p (blk_lt (h.pc k p y hp hy))).trans (h.pc k p y hp hy)
  pg := h.pg
  nd := h.nd
  ok := h.ok
  bel := h.bel.trans (hb.mono h.bel.size)
theorem PSt.setX {w W : World} {L : List Lf} {ps : List Nat} {v4 v3 : Value} {o : List Pr} (h : PSt w W L ps v4 o v3) {q : Nat} {cs : Array Value} (hq : W.heap[q]? = some (.cells cs 62 (0, 0))) (hn : q ∉ ps) (hge : w.heap.size ≤ q) (i : Nat) (x : Value) : PSt w (W.setCell ⟨q, i, none⟩ x) L ps v4 o v3 where
  rO := Kd.R_set h.rO hq (by decide) i x
  rS := Kd.R_set h.rS hq (by decide) i x
  pl := h.pl
  pc k p y hp hy := blk_far (h.pc k p y hp hy) (by
    intro e
    subst e
    exact hn (List.mem_of_getElem? hp)) _
  pg := h.pg
  nd := h.nd
  ok := h.ok
  bel := h.bel.setCell (p := ⟨q, i, none⟩) hge _
theorem PSt.setL {w W : World} {L : List Lf} {ps : List Nat} {v4 v3 : Value} {o : List Pr} (h : PSt w W L ps v4 o v3) {k p : Nat} {y : Lf} (hp : ps[k]? = some p) (hy : L[k]? = some y) (t : Int) (hok : okL { y with t := t }) : PSt w (W.setCell ⟨p, 6, none⟩ (.int .i64 t)) (L.set k { y with t := t }) ps v4 o v3 where
  rO := Kd.R_set h.rO (h.pc k p y hp hy) (by decide) 6 _
  rS := Kd.R_set h.rS (h.pc k p y hp hy) (by decide) 6 _
  pl := by rw [List.length_set]; exact h.pl
  pc k' p' y' hp' hy' := by
    by_cases hk : k' = k
    · subst hk
      rw [hp] at hp'
      injection hp' with hp'
      subst hp'
      rw [List.getElem?_set_self (List.getElem?_eq_some_iff.1 hy).1] at hy'
      injection hy' with hy'
      subst hy'
      exact blk_set (h.pc k' p y hp hy) 6 _
    · rw [List.getElem?_set_ne (fun e => hk e.symm)] at hy'
      refine blk_far (h.pc k' p' y' hp' hy') (fun e => ?_) _
      have e2 : p' = p := e
      obtain ⟨a1, a2⟩ := List.getElem?_eq_some_iff.1 hp
      obtain ⟨b1, b2⟩ := List.getElem?_eq_some_iff.1 hp'
      have hne := List.pairwise_iff_getElem.1 h.nd
      rcases Nat.lt_or_gt_of_ne hk with h1 | h1
      · exact hne k' k b1 a1 h1 (by rw [a2, b2]; exact e2)
      · exact hne k k' a1 b1 h1 (by rw [a2, b2]; exact e2.symm)
  pg := h.pg
  nd := h.nd
  ok z hz := by
    rcases List.mem_or_eq_of_mem_set hz with h1 | h1
    · exact h.ok z h1
    · rw [h1]; exact hok
  bel := h.bel.setCell (p := ⟨p, 6, none⟩) (h.pg p (List.mem_of_getElem? hp)) _
theorem PSt.cut {w W : World} {L : List Lf} {ps : List Nat} {A4 : Option Addr} {n4 c4 : Nat} {v3 : Value} {o : List Pr} (h : PSt w W L ps (.slice A4 n4 c4) o v3) {m : Nat} (hm : m ≤ ps.length) : PSt w W (L.take m) (ps.take m) (.slice A4 m c4) o v3 where
  rO := h.rO
  rS := Kd.R_take h.rS hm
  pl := by rw [List.length_take, List.length_take, h.pl]
  pc k p y hp hy := by
    rw [List.getElem?_take] at hp hy
    split at hp
    · rename_i hk
      rw [if_pos hk] at hy
      exact h.pc k p y hp hy
    · cases hp
  pg p hp := h.pg p (List.mem_of_mem_take hp)
  nd := h.nd.sublist (List.take_sublist _ _)
  ok y hy := h.ok y (List.mem_of_mem_take hy)
  bel := h.bel
theorem PSt.outs {w W W' : World} {L : List Lf} {ps : List Nat} {v4 v3 v3' : Value} {o o' : List Pr} (h : PSt w W L ps v4 o v3) (hr : kV.R 39 W' 0 (fun j => w.heap.size ≤ j) v3' o') (hg : W.grownBy W' v3.ownBlock) : PSt w W' L ps v4 o' v3' where
  rO := hr
  rS := Kd.R_over (d' := kV) h.rS h.rO (by decide) hg
  pl := h.pl
  pc k p y hp hy := (hg.block p (blk_lt (h.pc k p y hp hy)) (Kd.R_ne h.rO (h.pc k p y hp hy) (by decide))).trans (h.pc k p y hp hy)
  pg := h.pg
  nd := h.nd
  ok := h.ok
  bel := h.bel.grown hg h.bel.size (fun j e => h.rO.1 j e)
theorem PSt.push {w W W' : World} {L : List Lf} {ps : List Nat} {v4 v4' v3 : Value} {o : List Pr} (h : PSt w W L ps v4 o v3) {q : Nat} {X : Lf} (hq : W.heap[q]? = some (.cells (lfc X) 62 (0, 0))) (hn : q ∉ ps) (hge : w.heap.size ≤ q) (hX : okL X) (hr : kQ.R 60 W' 0 (fun j => w.heap.size ≤ j) v4' (ps ++ [q])) (hg : W.grownBy W' v4.ownBlock) : PSt w W' (L ++ [X]) (ps ++ [q]) v4' o v3 where
  rO := Kd.R_over (d' := kQ) h.rO h.rS (by decide) hg
  rS := hr
  pl := by rw [List.length_append, List.length_append, h.pl]; rfl
  pc k p y hp hy := by
    by_cases hk : k < ps.length
    · rw [List.getElem?_append_left hk] at hp
      rw [List.getElem?_append_left (by rw [← h.pl]; exact hk)] at hy
      exact (hg.block p (blk_lt (h.pc k p y hp hy)) (Kd.R_ne h.rS (h.pc k p y hp hy) (by decide))).trans (h.pc k p y hp hy)
    · have hk2 : k = ps.length := by
        have h1 := (List.getElem?_eq_some_iff.1 hp).1
        rw [List.length_append] at h1
        simp at h1
        omega
      subst hk2
      rw [List.getElem?_append_right (Nat.le_refl _)] at hp
      rw [h.pl, List.getElem?_append_right (Nat.le_refl _)] at hy
      simp at hp hy
      subst hp
      subst hy
      exact (hg.block q (blk_lt hq) (Kd.R_ne h.rS hq (by decide))).trans hq
  pg p hp := by
    rcases List.mem_append.1 hp with h1 | h1
    · exact h.pg p h1
    · simp at h1; rw [h1]; exact hge
  nd := by
    rw [List.nodup_append]
    exact ⟨h.nd, by simp, fun a ha b hb e => by simp at hb; subst hb; subst e; exact hn ha⟩
  ok y hy := by
    rcases List.mem_append.1 hy with h1 | h1
    · exact h.ok y h1
    · simp at h1; rw [h1]; exact hX
  bel := h.bel.grown hg h.bel.size (fun j e => h.rS.1 j e)
theorem PSt.nil (w : World) : PSt w w [] [] (.slice none 0 0) [] (.slice none 0 0) where
  rO := Kd.R_nil _ _ _ _ _
  rS := Kd.R_nil _ _ _ _ _
  pl := rfl
  pc k p y hp hy := by simp at hp
  pg p hp := by simp at hp
  nd := List.nodup_nil
  ok y hy := by simp at hy
  bel := Below.refl _ w
/-- A pointer of the stack. -/
theorem PSt.at {w W : World} {L : List Lf} {ps : List Nat} {A4 : Option Addr} {n4 c4 : Nat} {v3 : Value} {o : List Pr} (h : PSt w W L ps (.slice A4 n4 c4) o v3) {k p : Nat} (hp : ps[k]? = some p) : ∃ g, A4 = some ⟨g, 0, none⟩ ∧ W.cell? ⟨g, k, none⟩ = some (pv p) ∧ ps.length = n4 := by
  have hc := Kd.R_reads' h.rS
  have hil := (List.getElem?_eq_some_iff.1 hp).1
  obtain ⟨_, inner, hown, _⟩ := h.rS
  have hn := hc.1
  rcases hown.2 with ⟨_, h2⟩ | ⟨g, cap, cur, h2, _, _, h3, _⟩
  · omega
  · injection h2 with h21 h22 h23
    subst h21
    obtain ⟨ad, hA, hr⟩ := hc.2.2.2.2 (by omega)
    injection hA with hA
    subst hA
    obtain ⟨c, _, hk, hcell⟩ := hr k p hp
    have h := hcell 0 (pv p) (by rw [show c = [pv p] from hk]; rfl)
    rw [add_plain] at h
    exact ⟨g, rfl, by simpa [kQ, flat] using h, by omega⟩
end Go.Proofs.Ytjfpkldknchnkaa.Me
