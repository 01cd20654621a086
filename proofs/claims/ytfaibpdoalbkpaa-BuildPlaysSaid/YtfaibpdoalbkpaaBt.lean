/- A builder: what it is, how it lies in memory. -/
import Derived.Test.YtfaibpdoalbkpaaProg
import Derived.Below
import Derived.Deep.Draws
import Derived.Deep.AppendLies
import Derived.Maps.AppendAt
import Derived.OwnWalk
import Derived.Laws.BytesArg
import Derived.Laws.MakeOwn
import Derived.Laws.OwnMore
import Derived.Deep.OwnRows
import Derived.Tactics
import Derived.Lib.ConvBytes
import Derived.Laws.Slices
import Derived.WalkKit
import Derived.KernelRfl
import Derived.RowKit3
import Derived.Deep.LoopGhost
import Derived.Deep.QuietTactic
import Derived.BigQuiet
import Derived.WideLaws
import Derived.Deep.DeepCutAuto
import Derived.Deep.CutBlock
import Derived.Deep.RegionHeld3
import Derived.Laws.Rows
import Derived.Lib.AppendStr
import Derived.ArgAppend
import Derived.Laws.IdiomCopy
import Derived.OrdersHeld
import Derived.Laws.BitsLemmas
import Derived.RowKit
import Derived.Test.YtfaibpdoalbkpaaWWords
import Derived.Test.YtfaibpdoalbkpaaWLast
import Derived.Test.YtfaibpdoalbkpaaWTab
import Derived.Test.YtfaibpdoalbkpaaWFour
import Derived.Test.YtfaibpdoalbkpaaWQPut
import Derived.Test.YtfaibpdoalbkpaaWApart
import Derived.Test.YtfaibpdoalbkpaaWArr
import Derived.Test.YtfaibpdoalbkpaaWZeros
import Derived.Test.YtfaibpdoalbkpaaWFoot
import Derived.Test.YtfaibpdoalbkpaaWKept
import Derived.Test.YtfaibpdoalbkpaaWShare
import Derived.Test.YtfaibpdoalbkpaaWN
import Derived.Test.YtfaibpdoalbkpaaWFootNe
import Derived.Test.YtfaibpdoalbkpaaWAt
import Derived.Test.YtfaibpdoalbkpaaWEqStruct
import Derived.Test.YtfaibpdoalbkpaaWRepsOne
import Derived.Test.YtfaibpdoalbkpaaWInv
import Derived.Test.YtfaibpdoalbkpaaWInvWords
import Derived.Test.YtfaibpdoalbkpaaWGuard
import Derived.Test.YtfaibpdoalbkpaaWNEv
import Derived.Test.YtfaibpdoalbkpaaWMore
import Derived.ProofKit
import Derived.Deep.DrawnRows
namespace Go.Proofs.Ytfaibpdoalbkpaa.Bu
open Go.RowKit Go.Proofs.YtfaibpdoalbkpaaW.PrintWords Go.Proofs.YtfaibpdoalbkpaaW.PrintLast Go.Proofs.YtfaibpdoalbkpaaW.PrintMore
attribute [local go_sem] max2_int min2_int max_two min_two max_three min_three max_four min_four
set_option linter.unusedVariables false
set_option linter.unusedSimpArgs false

/-- A node; a builder: all nodes, the places of those that are open, how far it came. -/
structure Nd where
  k : Int
  f : Int
  t : Int
  d : Int
structure Bl where
  L : List Nd
  O : List Nat
  far : Int
abbrev pv (p : Nat) : Value := .pointer (some ⟨p, 0, none⟩)
def ndc (x : Nd) : Array Value := #[.int .u8 x.k, .int .i64 x.f, .int .i64 x.t, .int .i64 x.d]
/-- A builder behind b; whatever is its own is among fp. -/
structure BT (w : World) (fp : Nat → Prop) (b : Nat) (ps : List Nat) (m : Bl) (vN vO : Value) : Prop where
  hb : w.heap[b]? = some (.cells #[vN, vO, .int .i64 m.far] 57 (0, 0))
  rN : w.ownsRow 0 54 1 vN ps.length (ps.map pv)
  rO : w.ownsRow 0 54 1 vO m.O.length (m.O.map fun i => pv (ps.getD i 0))
  ne : ∀ k, vO.ownBlock = some k → some k ≠ vN.ownBlock
  len : ps.length = m.L.length
  nd : ps.Nodup
  nodes : ∀ (i : Nat) (x : Nd) (p : Nat), m.L[i]? = some x → ps[i]? = some p → w.heap[p]? = some (.cells (ndc x) 38 (0, 0))
  op : ∀ i ∈ m.O, i < m.L.length
  fb : fp b
  fN : ∀ k, vN.ownBlock = some k → fp k
  fO : ∀ k, vO.ownBlock = some k → fp k
  fps : ∀ p ∈ ps, fp p
/-- What a call may turn: blocks of fp alone. -/
structure Fr (fp : Nat → Prop) (w w' : World) : Prop where
  os : w'.os = w.os
  tape : w'.tape = w.tape
  output : w'.output = w.output
  size : w.heap.size ≤ w'.heap.size
  block : ∀ k, k < w.heap.size → ¬ fp k → w'.heap[k]? = w.heap[k]?
theorem Fr.refl (fp : Nat → Prop) (w : World) : Fr fp w w := ⟨rfl, rfl, rfl, Nat.le_refl _, fun _ _ _ => rfl⟩
theorem Fr.trans {fp fp' : Nat → Prop} {a b c : World} (h : Fr fp a b) (k : Fr fp' b c) (hf : ∀ j, fp' j → fp j ∨ a.heap.size ≤ j) : Fr fp a c :=
  ⟨k.os.trans h.os, k.tape.trans h.tape, k.output.trans h.output, Nat.le_trans h.size k.size, fun j hj hn => (k.block j (Nat.lt_of_lt_of_le hj h.size) (fun e => (hf j e).elim hn (fun h' => by omega))).trans (h.block j hj hn)⟩
theorem Fr.mono {fp fp' : Nat → Prop} {a b : World} (h : Fr fp a b) (hf : ∀ j, fp j → fp' j) : Fr fp' a b := ⟨h.os, h.tape, h.output, h.size, fun j hj hn => h.block j hj (fun e => hn (hf j e))⟩
theorem Fr.of_below {fp : Nat → Prop} {a b : World} (h : Below a.heap.size a b) : Fr fp a b := ⟨h.os, h.tape, h.output, h.size, fun j hj _ => h.block j hj⟩
theorem Fr.below {fp : Nat → Prop} {n : Nat} {a b : World} (h : Fr fp a b) (hn : n ≤ a.heap.size) (hf : ∀ j, fp j → n ≤ j) : Below n a b := ⟨h.os, h.tape, h.output, h.size, fun j hj => h.block j (by omega) (fun e => by have := hf j e; omega)⟩
theorem Fr.set {fp : Nat → Prop} {a b : World} (h : Fr fp a b) (p : Addr) (hp : fp p.block ∨ a.heap.size ≤ p.block) (v : Value) : Fr fp a (b.setCell p v) :=
  ⟨h.os, h.tape, h.output, by simpa using h.size, fun j hj hn => (Below.heap_setCell b p v j (fun e => by rcases hp with hp | hp; exact hn (by rw [e]; exact hp); omega)).trans (h.block j hj hn)⟩
theorem Fr.grown {fp : Nat → Prop} {a b c : World} {row : Option Nat} (h : Fr fp a b) (hg : b.grownBy c row) (hr : ∀ k, row = some k → fp k ∨ a.heap.size ≤ k) : Fr fp a c :=
  ⟨hg.os.trans h.os, hg.tape.trans h.tape, hg.output.trans h.output, Nat.le_trans h.size hg.size, fun j hj hn => (hg.block j (Nat.lt_of_lt_of_le hj h.size) (fun e => by rcases hr j e.symm with h' | h'; exact hn h'; omega)).trans (h.block j hj hn)⟩
theorem BT.mono {w : World} {fp fp' : Nat → Prop} {b : Nat} {ps : List Nat} {m : Bl} {vN vO : Value} (h : BT w fp b ps m vN vO) (hf : ∀ k, fp k → fp' k) : BT w fp' b ps m vN vO :=
  ⟨h.hb, h.rN, h.rO, h.ne, h.len, h.nd, h.nodes, h.op, hf _ h.fb, fun k e => hf _ (h.fN k e), fun k e => hf _ (h.fO k e), fun p e => hf _ (h.fps p e)⟩
theorem BT.node_lt {w : World} {fp : Nat → Prop} {b : Nat} {ps : List Nat} {m : Bl} {vN vO : Value} (h : BT w fp b ps m vN vO) : ∀ p ∈ ps, p < w.heap.size := fun p hp => by
  obtain ⟨i, hi⟩ := List.mem_iff_getElem?.1 hp
  have hil := (List.getElem?_eq_some_iff.1 hi).1
  rw [h.len] at hil
  exact blk_lt (h.nodes i _ p (List.getElem?_eq_getElem hil) hi)
theorem BT.bound {w : World} {fp : Nat → Prop} {b : Nat} {ps : List Nat} {m : Bl} {vN vO : Value} (h : BT w fp b ps m vN vO) : BT w (fun k => fp k ∧ k < w.heap.size) b ps m vN vO :=
  ⟨h.hb, h.rN, h.rO, h.ne, h.len, h.nd, h.nodes, h.op, ⟨h.fb, blk_lt h.hb⟩, fun k e => ⟨h.fN k e, own_lt h.rN k e⟩, fun k e => ⟨h.fO k e, own_lt h.rO k e⟩, fun p e => ⟨h.fps p e, h.node_lt p e⟩⟩
theorem BT.move {w w' : World} {fp : Nat → Prop} {b : Nat} {ps : List Nat} {m : Bl} {vN vO : Value} (h : BT w fp b ps m vN vO) (hm : ∀ k, fp k → k < w.heap.size → w'.heap[k]? = w.heap[k]?) : BT w' fp b ps m vN vO :=
  ⟨(hm b h.fb (blk_lt h.hb)).trans h.hb, own_move h.rN (fun k e => hm k (h.fN k e) (own_lt h.rN k e)), own_move h.rO (fun k e => hm k (h.fO k e) (own_lt h.rO k e)), h.ne, h.len, h.nd,
    fun i x p hx hp => (hm p (h.fps p (List.mem_of_getElem? hp)) (h.node_lt p (List.mem_of_getElem? hp))).trans (h.nodes i x p hx hp), h.op, h.fb, h.fN, h.fO, h.fps⟩
theorem BT.below {w w' : World} {fp : Nat → Prop} {b : Nat} {ps : List Nat} {m : Bl} {vN vO : Value} (h : BT w fp b ps m vN vO) (hb : Below w.heap.size w w') : BT w' fp b ps m vN vO := h.move fun k _ hk => hb.block k hk
/-- Whatever is another's stays where this one is turned. -/
theorem BT.fr {w w' : World} {fp fp' : Nat → Prop} {b : Nat} {ps : List Nat} {m : Bl} {vN vO : Value} (h : BT w fp b ps m vN vO) (hf : Fr fp' w w') (hd : ∀ k, fp k → ¬ fp' k) : BT w' fp b ps m vN vO := h.move fun k h1 hk => hf.block k hk (hd k h1)
theorem BT.cN {w : World} {fp : Nat → Prop} {b : Nat} {ps : List Nat} {m : Bl} {vN vO : Value} (h : BT w fp b ps m vN vO) : w.cell? ⟨b, 0, none⟩ = some vN := cell_of_row _ _ _ _ _ _ h.hb
theorem BT.cO {w : World} {fp : Nat → Prop} {b : Nat} {ps : List Nat} {m : Bl} {vN vO : Value} (h : BT w fp b ps m vN vO) : w.cell? ⟨b, 1, none⟩ = some vO := cell_of_row _ _ _ _ _ _ h.hb
theorem BT.cF {w : World} {fp : Nat → Prop} {b : Nat} {ps : List Nat} {m : Bl} {vN vO : Value} (h : BT w fp b ps m vN vO) : w.cell? ⟨b, 2, none⟩ = some (.int .i64 m.far) := cell_of_row _ _ _ _ _ _ h.hb
/-- How a slice of one's own is written, and its elements' cells. -/
theorem own_cells {w : World} {base : Nat} {e : TypeId} {v : Value} {xs : List Value} {n : Nat} (h : w.ownsRow base e 1 v n xs) :
    ∃ A c, v = .slice A n c ∧ n ≤ c ∧ ∀ (k : Nat) (q : Value), xs[k]? = some q → ∃ g, A = some ⟨g, 0, none⟩ ∧ v.ownBlock = some g ∧ (∃ cur, w.heap[g]? = some (.cells cur e (0, 0))) ∧ w.cell? ⟨g, k, none⟩ = some q := by
  have hl : xs.length = n := by have := h.1; omega
  rcases h.2 with ⟨rfl, h0⟩ | ⟨g, cap, cur, rfl, _, hg, hle, _, hsz, htk⟩
  · exact ⟨none, 0, by rw [h0], by omega, fun k q hq => by
      have := (List.getElem?_eq_some_iff.1 hq).1
      omega⟩
  · refine ⟨some ⟨g, 0, none⟩, cap, rfl, hle, fun k q hq => ⟨g, rfl, rfl, ⟨cur, hg⟩, ?_⟩⟩
    have hk := (List.getElem?_eq_some_iff.1 hq).1
    rw [cell_of_row w g k cur e (0, 0) hg]
    have h2 : (cur.toList.take (n * 1))[k]? = some q := by
      rw [htk]
      exact hq
    rw [List.getElem?_take_of_lt (by omega)] at h2
    simpa using h2
theorem info54 : (Try.prog.info? 54).map (fun i => (i.zero, i.size, i.bytes)) = some (some (.pointer none), 1, 8) := by kernel_rfl
def more (fp : Nat → Prop) (n : Nat) : Nat → Prop := fun k => fp k ∨ n ≤ k

/-- What add tells. -/
def AddP (w : World) (fp : Nat → Prop) (b : Nat) (ps : List Nat) (m : Bl) (vO : Value) (k f t : Int) (e : Ending) (w' : World) : Prop :=
  ∃ p vN', e = .returned (pv p) ∧ BT w' (more fp w.heap.size) b (ps ++ [p]) ⟨m.L ++ [⟨k, f, t, (m.O.length : Int)⟩], m.O, m.far⟩ vN' vO ∧ Fr fp w w'
set_option maxRecDepth 100000 in
set_option maxHeartbeats 4000000 in
theorem add_c (b : Nat) (ps : List Nat) (m : Bl) (vN vO : Value) (k f t : Int) (w : World) (fp : Nat → Prop) (h : BT w fp b ps m vN vO) (hl : m.L.length ≤ 1000000) :
    Calls Try.prog 29 #[pv b, .int .u8 k, .int .i64 f, .int .i64 t] w fun e w' => AddP w fp b ps m vO k f t e w' := by
  obtain ⟨A1, c1, hvN, hc1, _⟩ := own_cells h.rN
  obtain ⟨A2, c2, hvO, hc2, _⟩ := own_cells h.rO
  have g0 := h.cN
  have g1 := h.cO
  rw [hvN] at g0
  rw [hvO] at g1
  have H := Aside0.mk h
  obtain ⟨D, hD⟩ : ∃ D : Int, (m.O.length : Int) = D := ⟨_, rfl⟩
  obtain ⟨nO, hnO⟩ : ∃ D, m.O.length = D := ⟨_, rfl⟩
  obtain ⟨nP, hnP⟩ : ∃ D, ps.length = D := ⟨_, rfl⟩
  have hrN := h.rN
  have hrow : (w.alloc (.cells #[.int .u8 k, .int .i64 f, .int .i64 t, .int .i64 D] 38)).ownsRow 0 54 1 (.slice A1 nP c1) nP (ps.map pv) := by
    rw [← hnP, ← hvN]
    exact h.rN.alloc _
  have HROW := Aside0.mk hrow
  have HBA : Aside0 (Below 0 w (w.alloc (.cells #[.int .u8 k, .int .i64 f, .int .i64 t, .int .i64 D] 38))) := ⟨(below_alloc (Below.refl _ w) _).mono (Nat.zero_le _)⟩
  rw [hnO] at g1 hD
  rw [hnP] at g0
  have HVN := Aside0.mk hvN
  have HVO := Aside0.mk hvO
  have HND : Aside0 ((m.O.length : Int) = D) := ⟨by rw [hnO]; exact hD⟩
  have hb0 := h.hb
  rw [hvN, hvO, hnP, hnO] at hb0
  subst hD
  have hnP8 : nP ≤ 1000000 := by rw [← hnP, h.len]; exact hl
  obtain ⟨W, hW⟩ : ∃ W, w.alloc (.cells #[.int .u8 k, .int .i64 f, .int .i64 t, .int .i64 (nO : Int)] 38) = W := ⟨_, rfl⟩
  have hbw : Below w.heap.size w W := by rw [← hW]; exact below_alloc (Below.refl _ w) _
  have hsz : W.heap.size = w.heap.size + 1 := by rw [← hW]; simp
  have hbW : W.heap[b]? = some (.cells #[.slice A1 nP c1, .slice A2 nO c2, .int .i64 m.far] 57 (0, 0)) := (hbw.block _ (blk_lt hb0)).trans hb0
  have g0W : W.cell? ⟨b, 0, none⟩ = some (.slice A1 nP c1) := cell_of_row _ _ _ _ _ _ hbW
  have HPW : Aside0 (W.heap[w.heap.size]? = some (.cells (ndc ⟨k, f, t, (nO : Int)⟩) 38 (0, 0))) := ⟨by rw [← hW]; exact heap_alloc_new _ _⟩
  rw [hW] at HROW HBA
  have hne : some b ≠ (Value.slice A1 nP c1).ownBlock := own_ne HROW.out hbW (by decide)
  have HNE := Aside0.mk hne
  have HBW := Aside0.mk hbw
  have HBWB := Aside0.mk hbW
  have hfin : Aside0 (∀ v1 w1, w1.ownsRow 0 54 1 v1 (nP + 1) (ps.map pv ++ [pv w.heap.size]) → W.grownBy w1 (Value.slice A1 nP c1).ownBlock → (v1.ownBlock = (Value.slice A1 nP c1).ownBlock ∨ ∃ b, v1.ownBlock = some b ∧ W.heap.size ≤ b) →
      AddP w fp b ps m vO k f t (.returned (pv w.heap.size)) (w1.setCell ⟨b, 0, none⟩ v1)) := ⟨fun v1 w1 hown hg hat => by
    have HH := H.out
    have hpn : w.heap.size ∉ ps := fun hp => by have := HH.node_lt _ hp; omega
    have hb1 : w1.heap[b]? = _ := (hg.block b (blk_lt HBWB.out) HNE.out).trans HBWB.out
    have hno : ∀ j, (Value.slice A1 nP c1).ownBlock = some j → fp j := fun j e => HH.fN j (by rw [HVN.out, hnP]; exact e)
    have hvo : vO.ownBlock = none ∨ vO.ownBlock ≠ (Value.slice A1 nP c1).ownBlock := by
      cases hq : vO.ownBlock with
      | none => exact .inl rfl
      | some j => exact .inr (fun e => HH.ne j hq (by rw [HVN.out, hnP]; exact e))
    have hrO1 : w1.ownsRow 0 54 1 vO m.O.length (m.O.map fun i => pv (ps.getD i 0)) := (pw_own_below HH.rO HBW.out).kept hg hvo
    have hnodes : ∀ (j : Nat) (row : Array Value), w.heap[j]? = some (.cells row 38 (0, 0)) → w1.heap[j]? = some (.cells row 38 (0, 0)) := fun j row hj => by
      have hjW := (HBW.out.block _ (blk_lt hj)).trans hj
      exact (hg.block j (blk_lt hjW) (own_ne HROW.out hjW (by decide))).trans hjW
    have hnew : w1.heap[w.heap.size]? = _ := (hg.block w.heap.size (blk_lt HPW.out) (own_ne HROW.out HPW.out (by decide))).trans HPW.out
    have hbo : some b ≠ v1.ownBlock := own_ne hown hb1 (by decide)
    have hboO : some b ≠ vO.ownBlock := own_ne hrO1 hb1 (by decide)
    refine ⟨w.heap.size, v1, rfl, ⟨?_, ?_, ?_, ?_, ?_, ?_, ?_, ?_, .inl HH.fb, ?_, ?_, ?_⟩, ?_⟩
    · have e := blk_set hb1 0 v1
      rw [HVO.out, hnO]
      exact e
    · have e := own_setCell hown (p := ⟨b, 0, none⟩) hbo v1
      simpa [hnP] using e
    · have e := own_setCell hrO1 (p := ⟨b, 0, none⟩) hboO v1
      have e2 : (m.O.map fun i => pv ((ps ++ [w.heap.size]).getD i 0)) = m.O.map fun i => pv (ps.getD i 0) := by
        refine List.map_congr_left fun i hi => ?_
        have := HH.op i hi
        rw [← HH.len] at this
        simp [List.getD, List.getElem?_append_left this]
      rw [e2]
      exact e
    · intro j hj
      rcases hat with hat | ⟨b', hb', hlt⟩
      · rw [hat]
        intro e
        exact HH.ne j hj (by rw [HVN.out, hnP]; exact e)
      · rw [hb']
        intro e
        injection e with e
        have := own_lt HH.rO j hj
        omega
    · simp [HH.len]
    · rw [List.nodup_append]
      refine ⟨HH.nd, by simp, ?_⟩
      intro x hx y hy e
      simp at hy
      subst hy
      subst e
      exact hpn hx
    · intro i x p hx hp
      have hpb : p ≠ b ∧ w1.heap[p]? = some (.cells (ndc x) 38 (0, 0)) := by
        by_cases hi : i < m.L.length
        · rw [List.getElem?_append_left hi] at hx
          rw [List.getElem?_append_left (by rw [HH.len]; exact hi)] at hp
          have h1 := hnodes p _ (HH.nodes i x p hx hp)
          exact ⟨blk_ne h1 hb1 (by decide), h1⟩
        · have hil := (List.getElem?_eq_some_iff.1 hx).1
          simp at hil
          have hie : i = m.L.length := by omega
          subst hie
          have hxe : x = ⟨k, f, t, (m.O.length : Int)⟩ := by simpa using hx.symm
          rw [← HH.len] at hp
          have hpe : p = w.heap.size := by simpa using hp.symm
          subst hxe
          subst hpe
          rw [hnO]
          exact ⟨blk_ne hnew hb1 (by decide), hnew⟩
      exact blk_far hpb.2 hpb.1 _
    · intro i hi
      have := HH.op i hi
      simp
      omega
    · intro j hj
      rcases hat with hat | ⟨b', hb', hlt⟩
      · exact .inl (hno j (by rw [← hat]; exact hj))
      · rw [hb'] at hj
        injection hj with hj
        exact .inr (by omega)
    · exact fun j hj => .inl (HH.fO j hj)
    · intro p hp
      rcases List.mem_append.1 hp with hp | hp
      · exact .inl (HH.fps p hp)
      · simp at hp
        exact .inr (by omega)
    · exact ((Fr.of_below HBW.out).grown hg (fun j e => .inl (hno j e))).set ⟨b, 0, none⟩ (.inl HH.fb) _⟩
  clear h hvN hvO hrN hrow hne hbw hbW hb0 hsz
  go_enter Try.func29, Try.ntmps29
  go_upto_region 2 with (fail)
  go_wp2_with (at_builtin; refine print_append_cells (w0 := w) 0 rfl (.tmp 24) (.tmp 26) 55 54 (.pointer none) 1 8 rfl Try.underlying55 info54 rfl (by decide) (by decide) (.slice A1 nP c1) nP (ps.map pv) [pv w.heap.size] rfl (by rfl) rfl (by simp [Value.oneCell']) HROW.out HBA.out (Nat.zero_le _) (by omega) ?_; intro v1 w1 hown1 _ hg1 hat1; have hf := hfin.out v1 w1 hown1 hg1 hat1; obtain ⟨A3, c3, rfl, _⟩ := own_cells hown1; have HF := Aside0.mk hf; have hb1 := (hg1.block b (blk_lt HBWB.out) HNE.out).trans HBWB.out; have r0 := cell_of_row _ _ 0 _ _ _ hb1; have f0 := blk_frozen hb1 0; clear hown1 hg1 hat1 hf hb1)
  go_ret
  exact HF.out
end Go.Proofs.Ytfaibpdoalbkpaa.Bu
