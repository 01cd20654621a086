/- sound: will events be taken? The map of what each event does. -/
import Derived.Test.YtfaibpdoalbkpaaOp
import Derived.Deep.Slices
import Derived.Deep.Strs
import Derived.ChangeSame
import Derived.MapKept
import Derived.Carry
namespace Go.Proofs.Ytfaibpdoalbkpaa.Bu
open Go.RowKit Go.Proofs.YtfaibpdoalbkpaaW.PrintWords Go.Proofs.YtfaibpdoalbkpaaW.PrintLast Go.Proofs.YtfaibpdoalbkpaaW.PrintMore
attribute [local go_sem] max2_int min2_int max_two min_two max_three min_three max_four min_four
set_option linter.unusedVariables false
set_option linter.unusedSimpArgs false
/-- A place that may not be come to. -/
def Bad (at_ far x : Int) : Prop := x < 0 ∨ 1048576 - at_ < x ∨ at_ + x < far
instance (at_ far x : Int) : Decidable (Bad at_ far x) := by unfold Bad; infer_instance
def soundB (at_ : Int) : Int → Int → List Ev → Int
  | _, _, [] => 0
  | far, op, e :: r =>
    if e.o < 1 ∨ 3 < e.o then 1
    else if Bad at_ far e.a then 70
    else if e.o = 3 then (if Bad at_ (at_ + e.a) e.t then 70 else soundB at_ (at_ + e.t) op r)
    else if e.o = 1 then soundB at_ (at_ + e.a) (op + 1) r
    else if op - 1 < 0 then 71 else soundB at_ (at_ + e.a) (op - 1) r
def REv (e : Ev) (cs : List Value) : Prop := cs = (evc e).toList
theorem ev_at {w : World} {ad : Addr} {n : Nat} {l : List Ev} {k : Nat} {e : Ev} (h : ReadsRow REv 4 w (some ad) n l) (ha : l[k]? = some e) :
    w.cell? (ad.add (k * 4)) = some (.int .u8 e.o) ∧ w.cell? ⟨(ad.add (k * 4)).block, (ad.add (k * 4)).off + 1, none⟩ = some (.int .u8 e.k) ∧ w.cell? ⟨(ad.add (k * 4)).block, (ad.add (k * 4)).off + 2, none⟩ = some (.int .i64 e.a) ∧
      w.cell? ⟨(ad.add (k * 4)).block, (ad.add (k * 4)).off + 3, none⟩ = some (.int .i64 e.t) := by
  have hl := (List.getElem?_eq_some_iff.1 ha).1
  obtain ⟨ad', hA, hr⟩ := h.2.2 (by have := h.1; omega)
  injection hA with hA
  subst hA
  obtain ⟨c, _, hc, hcell⟩ := hr k e ha
  subst hc
  have e' : ∀ j u, ((evc e).toList)[j]? = some u → w.cell? ((ad.add (k * 4)).add j) = some u := fun j u h => by
    rw [Go.Deep.add_add]
    exact hcell j u h
  exact ⟨e' 0 _ rfl, e' 1 _ rfl, e' 2 _ rfl, e' 3 _ rfl⟩
theorem evs_below {w w' : World} {A : Option Addr} {n : Nat} {l : List Ev} (h : ReadsRow REv 4 w A n l) (hb : Below w.heap.size w w') : ReadsRow REv 4 w' A n l :=
  ⟨h.1, h.2.1, fun hp => by
    obtain ⟨ad, hA, hr⟩ := h.2.2 hp
    refine ⟨ad, hA, fun k a ha => ?_⟩
    obtain ⟨cs, hc5, hc, hcell⟩ := hr k a ha
    exact ⟨cs, hc5, hc, fun j u hu => pw_cell_below hb (hcell j u hu)⟩⟩

def ComeP (w : World) (p7 : Nat) (at_ far x : Int) (e : Ending) (w' : World) : Prop :=
  (Bad at_ far x ∧ e = .returned (.bool false) ∧ w' = w) ∨ (¬ Bad at_ far x ∧ e = .returned (.bool true) ∧ w' = w.setCell ⟨p7, 0, none⟩ (.int .i64 (at_ + x)))
set_option maxRecDepth 100000 in
set_option maxHeartbeats 4000000 in
theorem come_c (p5 p7 : Nat) (at_ far x : Int) (w : World) (h5 : w.cell? ⟨p5, 0, none⟩ = some (.int .i64 at_)) (h7 : w.heap[p7]? = some (.cells #[.int .i64 far] 3 (0, 0))) (ha : 0 ≤ at_ ∧ at_ ≤ 1048576) (hf : 0 ≤ far ∧ far ≤ 1048576) :
    Calls Try.prog 24 #[.int .i64 x, pv p5, pv p7] w fun e w' => ComeP w p7 at_ far x e w' := by
  have c7 : w.cell? ⟨p7, 0, none⟩ = some (.int .i64 far) := cell_of_row _ _ _ _ _ _ h7
  have f7 := blk_frozen h7 0
  have hw1 : IntKind.i64.wrap (1048576 - at_) = 1048576 - at_ := IntWalk.i64_in _ (by omega)
  by_cases hx0 : x < 0
  · have HF : Aside0 (ComeP w p7 at_ far x (.returned (.bool false)) w) := ⟨.inl ⟨.inl hx0, rfl, rfl⟩⟩
    clear h7
    go_enter Try.func24, Try.ntmps24
    go_wp2_with (fail)
    go_ret
    exact HF.out
  by_cases hx1 : 1048576 - at_ < x
  · have HF : Aside0 (ComeP w p7 at_ far x (.returned (.bool false)) w) := ⟨.inl ⟨.inr (.inl hx1), rfl, rfl⟩⟩
    clear h7
    go_enter Try.func24, Try.ntmps24
    go_wp2_with (fail)
    go_ret
    exact HF.out
  have hw2 : IntKind.i64.wrap (at_ + x) = at_ + x := IntWalk.i64_in _ (by omega)
  by_cases hx2 : at_ + x < far
  · have HF : Aside0 (ComeP w p7 at_ far x (.returned (.bool false)) w) := ⟨.inl ⟨.inr (.inr hx2), rfl, rfl⟩⟩
    clear h7
    go_enter Try.func24, Try.ntmps24
    go_wp2_with (fail)
    go_ret
    exact HF.out
  · have HF : Aside0 (ComeP w p7 at_ far x (.returned (.bool true)) (w.setCell ⟨p7, 0, none⟩ (.int .i64 (at_ + x)))) := ⟨.inr ⟨fun h => by rcases h with h | h | h <;> omega, rfl, rfl⟩⟩
    clear h7
    go_enter Try.func24, Try.ntmps24
    go_wp2_with (fail)
    go_ret
    exact HF.out

/-! ### The map of what each event does -/
def doEs : Array MapEntry := #[⟨.int .u8 1, .func (.func 25) #[] #[], 0⟩, ⟨.int .u8 2, .func (.func 26) #[] #[], 1⟩, ⟨.int .u8 3, .func (.func 27) #[] #[], 2⟩]
def DoMap (w : World) (mb : Nat) : Prop := w.heap[mb]? = some (.map doEs 3)
def wset (w : World) (r : Nat) (o : Obj) : World := { w with heap := w.heap.setIfInBounds r o }
theorem wset_new (w : World) (o o' : Obj) : wset (w.alloc o) w.heap.size o' = w.alloc o' := by
  simp [World.alloc, wset, Array.setIfInBounds, Array.push]
theorem run_upd {w : World} {r : Nat} {es : Array MapEntry} {c : Nat} (k : Int) (v : Value) (h : w.heap[r]? = some (.map es c)) (hk : Instr.findNow (.int .u8) (.int .u8 k) es.toList 0 = some none) :
    (Instr.mapUpdate 58 (.map (some r)) (.int .u8 k) v).run Try.prog w = .ok () (wset w r (.map (es.push ⟨.int .u8 k, v, c⟩) (c + 1))) := by
  have hc : (Instr.checkKey false 10000 5 (.int .u8 k)).run Try.prog w = .ok () w := MapKept.run_checkKey (k := .int .u8 k) Try.underlying5 (by simp [MapKept.IsKey]) false 9999
  simp [Instr.mapUpdate, run_underlying Try.underlying58, MapKept.run_getObj_map h, hc, MapKept.run_findKey Try.underlying5 hk, MapKept.run_setObj_map _ h, Result.andThen, wset]
theorem run_look {w : World} {r : Nat} {es : Array MapEntry} {c i : Nat} (k : Int) (v : Value) (h : w.heap[r]? = some (.map es c)) (hk : Instr.findNow (.int .u8) (.int .u8 k) es.toList 0 = some (some (i, v))) :
    (Instr.lookup 58 (.map (some r)) (.int .u8 k) false).run Try.prog w = .ok v w := by
  have hc : (Instr.checkKey es.isEmpty 10000 5 (.int .u8 k)).run Try.prog w = .ok () w := MapKept.run_checkKey (k := .int .u8 k) Try.underlying5 (by simp [MapKept.IsKey]) _ 9999
  simp [Instr.lookup, run_underlying Try.underlying58, MapKept.run_getObj_map h, hc, MapKept.run_findKey Try.underlying5 hk, Result.andThen]
def DoP (w : World) (e : Ending) (w' : World) : Prop := e = .returned (.map (some w.heap.size)) ∧ w' = w.alloc (.map doEs 3)
set_option maxRecDepth 100000 in
set_option maxHeartbeats 4000000 in
theorem doings_c (w : World) : Calls Try.prog 22 #[] w fun e w' => DoP w e w' := by
  have hmm := @run_makeMap Try.prog
  have h1 : (Instr.mapUpdate 58 (.map (some w.heap.size)) (.int .u8 1) (.func (.func 25) #[] #[])).run Try.prog (w.alloc (.map #[] 0)) = .ok () (w.alloc (.map #[⟨.int .u8 1, .func (.func 25) #[] #[], 0⟩] 1)) := by
    rw [run_upd (es := #[]) (c := 0) 1 _ (heap_alloc_new w _) rfl, wset_new]
    rfl
  have h2 : (Instr.mapUpdate 58 (.map (some w.heap.size)) (.int .u8 2) (.func (.func 26) #[] #[])).run Try.prog (w.alloc (.map #[⟨.int .u8 1, .func (.func 25) #[] #[], 0⟩] 1)) = .ok () (w.alloc (.map #[⟨.int .u8 1, .func (.func 25) #[] #[], 0⟩, ⟨.int .u8 2, .func (.func 26) #[] #[], 1⟩] 2)) := by
    rw [run_upd (es := #[⟨.int .u8 1, .func (.func 25) #[] #[], 0⟩]) (c := 1) 2 _ (heap_alloc_new w _) rfl, wset_new]
    rfl
  have h3 : (Instr.mapUpdate 58 (.map (some w.heap.size)) (.int .u8 3) (.func (.func 27) #[] #[])).run Try.prog (w.alloc (.map #[⟨.int .u8 1, .func (.func 25) #[] #[], 0⟩, ⟨.int .u8 2, .func (.func 26) #[] #[], 1⟩] 2)) = .ok () (w.alloc (.map #[⟨.int .u8 1, .func (.func 25) #[] #[], 0⟩, ⟨.int .u8 2, .func (.func 26) #[] #[], 1⟩, ⟨.int .u8 3, .func (.func 27) #[] #[], 2⟩] 3)) := by
    rw [run_upd (es := #[⟨.int .u8 1, .func (.func 25) #[] #[], 0⟩, ⟨.int .u8 2, .func (.func 26) #[] #[], 1⟩]) (c := 2) 3 _ (heap_alloc_new w _) rfl, wset_new]
    rfl
  have HF : Aside0 (DoP w (.returned (.map (some w.heap.size))) (w.alloc (.map doEs 3))) := ⟨⟨rfl, rfl⟩⟩
  go_enter Try.func22, Try.ntmps22
  go_wp2_with (fail)
  go_ret
  exact HF.out
end Go.Proofs.Ytfaibpdoalbkpaa.Bu
