/- The arguments: events, nodes, acts, as they are handed in; are there too many? -/
import Derived.Test.YtfaibpdoalbkpaaWk
import Derived.WalkKit
import Derived.SizedLaws
namespace Go.Proofs.Ytfaibpdoalbkpaa.Bu
open Go.RowKit Go.Proofs.YtfaibpdoalbkpaaW.PrintWords Go.Proofs.YtfaibpdoalbkpaaW.PrintLast Go.Proofs.YtfaibpdoalbkpaaW.PrintMore
open Go.WideShapes Go.ChangeShapes
attribute [local go_sem] max2_int min2_int max_two min_two max_three min_three max_four min_four
set_option linter.unusedVariables false
set_option linter.unusedSimpArgs false
/-- An act. -/
structure ActM where
  d : Int
  a : Int
  l : List Ev
def RAct (w : World) (a : ActM) (cs : List Value) : Prop := ∃ A c, cs = [.int .i64 a.d, .int .i64 a.a, .slice A a.l.length c] ∧ a.l.length ≤ c ∧ ReadsRow REv 4 w A a.l.length a.l
theorem act_at {w : World} {ad : Addr} {n : Nat} {l : List ActM} {k : Nat} {a : ActM} (h : ReadsRow (RAct w) 3 w (some ad) n l) (ha : l[k]? = some a) :
    ∃ A c, a.l.length ≤ c ∧ ReadsRow REv 4 w A a.l.length a.l ∧ w.cell? (ad.add (k * 3)) = some (.int .i64 a.d) ∧ w.cell? ⟨(ad.add (k * 3)).block, (ad.add (k * 3)).off + 1, none⟩ = some (.int .i64 a.a) ∧
      w.cell? ⟨(ad.add (k * 3)).block, (ad.add (k * 3)).off + 2, none⟩ = some (.slice A a.l.length c) := by
  have hl := (List.getElem?_eq_some_iff.1 ha).1
  obtain ⟨ad', hA, hr⟩ := h.2.2 (by have := h.1; omega)
  injection hA with hA
  subst hA
  obtain ⟨c, hc5, ⟨A, c1, hc, hcl, hL⟩, hcell⟩ := hr k a ha
  subst hc
  have e : ∀ j u, ([Value.int .i64 a.d, .int .i64 a.a, .slice A a.l.length c1] : List Value)[j]? = some u → w.cell? ((ad.add (k * 3)).add j) = some u := fun j u h => by
    rw [Go.Deep.add_add]
    exact hcell j u h
  exact ⟨A, c1, hcl, hL, e 0 _ rfl, e 1 _ rfl, e 2 _ rfl⟩
theorem acts_below {w w' : World} {A : Option Addr} {n : Nat} {l : List ActM} (h : ReadsRow (RAct w) 3 w A n l) (hb : Below w.heap.size w w') : ReadsRow (RAct w') 3 w' A n l :=
  ⟨h.1, h.2.1, fun hp => by
    obtain ⟨ad, hA, hr⟩ := h.2.2 hp
    refine ⟨ad, hA, fun k a ha => ?_⟩
    obtain ⟨cs, hc5, ⟨A1, c1, hc, hcl, hL⟩, hcell⟩ := hr k a ha
    exact ⟨cs, hc5, ⟨A1, c1, hc, hcl, evs_below hL hb⟩, fun j u hu => pw_cell_below hb (hcell j u hu)⟩⟩
section
variable {H : Type} {enc : TypeId × Value → H} {w : World} {base : Nat} {spare : Nat → Bool} {held : Bool}
theorem list_of {α : Type} {P : Nat → α → Prop} : ∀ n, (∀ i, i < n → ∃ a, P i a) → ∃ l : List α, l.length = n ∧ ∀ i a, l[i]? = some a → P i a
  | 0, _ => ⟨[], rfl, fun i a h => by simp at h⟩
  | n + 1, h => by
    obtain ⟨l, hl, hp⟩ := list_of n (fun i hi => h i (by omega))
    obtain ⟨a, ha⟩ := h n (by omega)
    refine ⟨l ++ [a], by simp [hl], fun i b hb => ?_⟩
    by_cases hi : i < l.length
    · rw [List.getElem?_append_left hi] at hb
      exact hp i b hb
    · have hil := (List.getElem?_eq_some_iff.1 hb).1
      rw [List.length_append, List.length_singleton] at hil
      have : i = l.length := by omega
      subst this
      simp at hb
      subst hb
      rw [hl]
      exact ha
theorem int_of {fuel : Nat} {cs : List Value} {y : DataW H × List MemPlace} (h : DataW.trod enc Try.prog w base spare held fuel 3 cs = some y) : ∃ a, cs = [.int .i64 a] := by
  cases fuel with
  | zero => simp [DataW.trod] at h
  | succ f =>
    unfold DataW.trod at h
    rw [Try.underlying3] at h
    split at h <;> simp_all
theorem u8_of {fuel : Nat} {cs : List Value} {y : DataW H × List MemPlace} (h : DataW.trod enc Try.prog w base spare held fuel 5 cs = some y) : ∃ a, cs = [.int .u8 a] := by
  cases fuel with
  | zero => simp [DataW.trod] at h
  | succ f =>
    unfold DataW.trod at h
    rw [Try.underlying5] at h
    split at h <;> simp_all
theorem cells3 : Try.prog.cellsOf 3 = 1 := by kernel_rfl
theorem cells5 : Try.prog.cellsOf 5 = 1 := by kernel_rfl
theorem cells29 : Try.prog.cellsOf 29 = 1 := by kernel_rfl
theorem cells31 : Try.prog.cellsOf 31 = 3 := by kernel_rfl
theorem cells38 : Try.prog.cellsOf 38 = 4 := by kernel_rfl
theorem cells41 : Try.prog.cellsOf 41 = 4 := by kernel_rfl
theorem ev_of {fuel : Nat} {cs : List Value} {y : DataW H × List MemPlace} (h : DataW.trod enc Try.prog w base spare held fuel 41 cs = some y) : ∃ e : Ev, cs = (evc e).toList := by
  obtain ⟨zs, n, _, hx, hl, hlen, hf⟩ := DataW.trod_struct Try.underlying41 h
  rw [cells41] at hl
  match zs, hlen with
  | [y0, y1, y2, y3], _ =>
    have t0 := hf 0 _ rfl
    have t1 := hf 1 _ rfl
    have t2 := hf 2 _ rfl
    have t3 := hf 3 _ rfl
    match cs, hl with
    | [b0, b1, b2, b3], _ =>
      simp [cells3, cells5] at t0 t1 t2 t3
      obtain ⟨a0, h0⟩ := u8_of t0
      obtain ⟨a1, h1⟩ := u8_of t1
      obtain ⟨a2, h2⟩ := int_of t2
      obtain ⟨a3, h3⟩ := int_of t3
      injection h0 with h0
      injection h1 with h1
      injection h2 with h2
      injection h3 with h3
      subst h0 h1 h2 h3
      exact ⟨⟨a0, a1, a2, a3⟩, rfl⟩
theorem nd_of {fuel : Nat} {cs : List Value} {y : DataW H × List MemPlace} (h : DataW.trod enc Try.prog w base spare held fuel 38 cs = some y) : ∃ e : Nd, cs = (ndc e).toList := by
  obtain ⟨zs, n, _, hx, hl, hlen, hf⟩ := DataW.trod_struct Try.underlying38 h
  rw [cells38] at hl
  match zs, hlen with
  | [y0, y1, y2, y3], _ =>
    have t0 := hf 0 _ rfl
    have t1 := hf 1 _ rfl
    have t2 := hf 2 _ rfl
    have t3 := hf 3 _ rfl
    match cs, hl with
    | [b0, b1, b2, b3], _ =>
      simp [cells3, cells5] at t0 t1 t2 t3
      obtain ⟨a0, h0⟩ := u8_of t0
      obtain ⟨a1, h1⟩ := int_of t1
      obtain ⟨a2, h2⟩ := int_of t2
      obtain ⟨a3, h3⟩ := int_of t3
      injection h0 with h0
      injection h1 with h1
      injection h2 with h2
      injection h3 with h3
      subst h0 h1 h2 h3
      exact ⟨⟨a0, a1, a2, a3⟩, rfl⟩
theorem evs_of' {fuel : Nat} {cs : List Value} {y : DataW H × List MemPlace} (h : DataW.trod enc Try.prog w base spare held fuel 29 cs = some y) : ∃ (l : List Ev) (A : Option Addr) (c : Nat), cs = [.slice A l.length c] ∧ l.length ≤ c ∧ ReadsRow REv 4 w A l.length l := by
  rcases Deep.open_slice Try.underlying29 h with ⟨h0, _⟩ | ⟨a, len, cap, m, k, D, Pl, hcs, hb, hl, hm, hmm, hx, hi⟩
  · exact ⟨[], none, 0, h0, Nat.le_refl _, rfl, by decide, fun hp => by simp at hp⟩
  · rw [cells41] at hi
    have hnm : len ≤ m := by rw [hmm]; split <;> omega
    obtain ⟨l, hll, hp⟩ := list_of (P := fun i (q : Ev) => ∀ j u, (evc q).toList[j]? = some u → w.cell? (a.add (i * 4 + j)) = some u) len (fun i hin => by
      obtain ⟨cs', hc, ht⟩ := hi i (by omega)
      obtain ⟨_, hcl, hat⟩ := World.cells?_some hc
      obtain ⟨q, hq⟩ := ev_of ht
      subst hq
      refine ⟨q, fun j u hu => ?_⟩
      have hj : j < 4 := (List.getElem?_eq_some_iff.1 hu).1
      rw [← Go.Deep.add_add, hat j hj]
      exact hu)
    subst hll
    exact ⟨l, some a, cap, hcs, by omega, rfl, by have : cap ≤ maxLen := hm; unfold maxLen at this; omega, fun _ => ⟨a, rfl, fun j q hq => ⟨_, rfl, rfl, hp j q hq⟩⟩⟩
theorem evs_of {fuel : Nat} {A : Option Addr} {n c : Nat} {y : DataW H × List MemPlace} (h : DataW.trod enc Try.prog w base spare held fuel 29 [.slice A n c] = some y) : ∃ l : List Ev, n ≤ c ∧ ReadsRow REv 4 w A n l := by
  obtain ⟨l, A', c', hcs, hc, hr⟩ := evs_of' h
  injection hcs with hcs
  injection hcs with h1 h2 h3
  subst h1 h2 h3
  exact ⟨l, hc, hr⟩
theorem nds_of {fuel : Nat} {A : Option Addr} {n c : Nat} {y : DataW H × List MemPlace} (h : DataW.trod enc Try.prog w base spare held fuel 32 [.slice A n c] = some y) : ∃ l : List Nd, n ≤ c ∧ kN.C w A n l := by
  rcases Deep.open_slice Try.underlying32 h with ⟨h0, _⟩ | ⟨a, len, cap, m, k, D, Pl, hcs, hb, hl, hm, hmm, hx, hi⟩
  · injection h0 with h0
    injection h0 with h1 h2 h3
    exact ⟨[], by omega, by rw [h2]; rfl, by omega, fun hp => by omega⟩
  · injection hcs with hcs
    injection hcs with h1 h2 h3
    subst h1; subst h2; subst h3
    rw [cells38] at hi
    have hnm : n ≤ m := by rw [hmm]; split <;> omega
    obtain ⟨l, hll, hp⟩ := list_of (P := fun i (q : Nd) => ∀ j u, (ndc q).toList[j]? = some u → w.cell? (a.add (i * 4 + j)) = some u) n (fun i hin => by
      obtain ⟨cs', hc, ht⟩ := hi i (by omega)
      obtain ⟨_, hcl, hat⟩ := World.cells?_some hc
      obtain ⟨q, hq⟩ := nd_of ht
      subst hq
      refine ⟨q, fun j u hu => ?_⟩
      have hj : j < 4 := (List.getElem?_eq_some_iff.1 hu).1
      rw [← Go.Deep.add_add, hat j hj]
      exact hu)
    exact ⟨l, by omega, hll, by have : c ≤ maxLen := hm; unfold maxLen at this; omega, fun _ => ⟨a, rfl, fun j q hq => ⟨_, rfl, rfl, hp j q hq⟩⟩⟩
theorem act_of {fuel : Nat} {cs : List Value} {y : DataW H × List MemPlace} (h : DataW.trod enc Try.prog w base spare held fuel 31 cs = some y) : ∃ a : ActM, RAct w a cs := by
  obtain ⟨zs, n, _, hx, hl, hlen, hf⟩ := DataW.trod_struct Try.underlying31 h
  rw [cells31] at hl
  match zs, hlen with
  | [y0, y1, y2], _ =>
    have t0 := hf 0 _ rfl
    have t1 := hf 1 _ rfl
    have t2 := hf 2 _ rfl
    match cs, hl with
    | [b0, b1, b2], _ =>
      simp [cells3, cells29] at t0 t1 t2
      obtain ⟨d, hd⟩ := int_of t0
      obtain ⟨i, hi⟩ := int_of t1
      obtain ⟨l, A1, c1, h1, l1, C1⟩ := evs_of' t2
      injection hd with hd
      injection hi with hi
      injection h1 with h1
      subst hd hi h1
      exact ⟨⟨d, i, l⟩, A1, c1, rfl, l1, C1⟩
theorem acts_of {fuel : Nat} {A : Option Addr} {n c : Nat} {y : DataW H × List MemPlace} (h : DataW.trod enc Try.prog w base spare held fuel 22 [.slice A n c] = some y) : ∃ l : List ActM, ReadsRow (RAct w) 3 w A n l := by
  rcases Deep.open_slice Try.underlying22 h with ⟨h0, _⟩ | ⟨a, len, cap, m, k, D, Pl, hcs, hb, hl, hm, hmm, hx, hi⟩
  · injection h0 with h0
    injection h0 with h1 h2 h3
    exact ⟨[], by rw [h2]; rfl, by omega, fun hp => by omega⟩
  · injection hcs with hcs
    injection hcs with h1 h2 h3
    subst h1; subst h2; subst h3
    rw [cells31] at hi
    have hnm : n ≤ m := by rw [hmm]; split <;> omega
    obtain ⟨l, hll, hp⟩ := list_of (P := fun i (q : ActM) => ∃ cs, cs.length = 3 ∧ RAct w q cs ∧ ∀ j u, cs[j]? = some u → w.cell? (a.add (i * 3 + j)) = some u) n (fun i hin => by
      obtain ⟨cs', hc, ht⟩ := hi i (by omega)
      obtain ⟨_, hcl, hat⟩ := World.cells?_some hc
      obtain ⟨q, hq⟩ := act_of ht
      refine ⟨q, cs', hcl, hq, fun j u hu => ?_⟩
      have hj : j < 3 := by rw [← hcl]; exact (List.getElem?_eq_some_iff.1 hu).1
      rw [← Go.Deep.add_add, hat j hj]
      exact hu)
    exact ⟨l, hll, by have : c ≤ maxLen := hm; unfold maxLen at this; omega, fun _ => ⟨a, rfl, fun j q hq => hp j q hq⟩⟩
end
/-- How many events all acts have. -/
def tot : List ActM → Nat
  | [] => 0
  | a :: r => a.l.length + tot r
theorem tot_append : ∀ a b : List ActM, tot (a ++ b) = tot a + tot b
  | [], b => by simp [tot]
  | x :: a, b => by simp only [List.cons_append, tot, tot_append a b]; omega
theorem tot_take (l : List ActM) (k : Nat) : tot (l.take k) ≤ tot l := by
  have h := tot_append (l.take k) (l.drop k)
  rw [List.take_append_drop] at h
  omega
structure Small (l : List ActM) : Prop where
  n : l.length ≤ 100
  t : tot l ≤ 3000
def GreatP (l : List ActM) (e : Ending) : Prop := ∃ b, e = .returned (.bool b) ∧ (b = false → Small l)
set_option maxRecDepth 100000 in
set_option maxHeartbeats 4000000 in
theorem great_c (A : Option Addr) (n c : Nat) (l : List ActM) (w : World) (hR : ReadsRow (RAct w) 3 w A n l) : Calls Try.prog 8 #[.slice A n c] w fun e w' => GreatP l e ∧ w' = w := by
  have hln := hR.1
  have hn8 := hR.2.1
  have HR := Aside0.mk hR
  have HLN := Aside0.mk hln
  have htrue : Aside0 (GreatP l (.returned (.bool true))) := ⟨⟨true, rfl, fun h => by cases h⟩⟩
  clear hR hln
  go_enter Try.func8, Try.ntmps8
  by_cases h80 : (100 : Int) < (n : Int)
  · have b0 : decide ((100 : Int) < (n : Int)) = true := decide_eq_true h80
    go_wp2_with (fail)
    go_ret
    exact ⟨htrue.out, rfl⟩
  · have h80' : n ≤ 100 := by omega
    have b0 : decide ((100 : Int) < (n : Int)) = false := decide_eq_false h80
    clear h80
    go_upto_block 0 with (fail)
    go_wp2_with (fail)
    go_loopg [3, 4] n (fun gk v3 v4 wr => ∃ (k : Nat) (T : Int), v3 = .int .i64 T ∧ v4 = .int .i64 (k : Int) ∧ wr = w ∧ Aside0 (k + gk = n) ∧ Aside0 (T = (tot (l.take k) : Int)) ∧ Aside0 (0 ≤ T ∧ T ≤ 3000 * (k : Int)))
    case atStart => exact ⟨0, 0, rfl, rfl, rfl, ⟨by omega⟩, ⟨rfl⟩, ⟨by omega⟩⟩
    case round =>
      obtain ⟨k, T, rfl, rfl, rfl, HK, HT, HTB⟩ := hrel
      by_cases hkn : k < n
      · obtain ⟨gn, rfl⟩ : ∃ gn, gk = gn + 1 := ⟨gk - 1, by have := HK.out; omega⟩
        obtain ⟨x, hx⟩ : ∃ x, l[k]? = some x := ⟨_, List.getElem?_eq_getElem (by rw [HLN.out]; exact hkn)⟩
        obtain ⟨ad, hA, _⟩ := HR.out.2.2 (by omega)
        subst hA
        obtain ⟨A1, c1, hcl, hL, d0, d1, d2⟩ := act_at HR.out hx
        have HX := Aside0.mk hx
        obtain ⟨m1, hm1⟩ : ∃ m, x.l.length = m := ⟨_, rfl⟩
        rw [hm1] at d2
        have HM1 := Aside0.mk hm1
        have p0 : (0 : Int) ≤ (k : Int) := by omega
        have p1 : (k : Int) < (n : Int) := by omega
        have htb := HTB.out
        have hw1 : IntKind.i64.wrap ((k : Int) + 1) = (k : Int) + 1 := IntWalk.i64_in _ (by omega)
        clear hx hL hcl hm1
        by_cases h1 : (3000 : Int) < (m1 : Int)
        · have b1 : decide ((3000 : Int) < (m1 : Int)) = true := decide_eq_true h1
          clear HT HK htb
          go_wp2_with (fail)
          go_ret
          exact ⟨htrue.out, rfl⟩
        have b1 : decide ((3000 : Int) < (m1 : Int)) = false := decide_eq_false h1
        have hw2 : IntKind.i64.wrap (T + (m1 : Int)) = T + (m1 : Int) := IntWalk.i64_in _ (by omega)
        clear htb
        go_wp2_with (fail)
        go_roundg gn
        case measure => exact Nat.lt_succ_self _
        case rel =>
          refine ⟨k + 1, T + (m1 : Int), rfl, by simp, rfl, ⟨by have := HK.out; omega⟩, ⟨?_⟩, ⟨by have := HTB.out; omega⟩⟩
          rw [take_snoc HX.out, tot_append, HT.out, ← HM1.out]
          simp [tot]
      · have hkm : n ≤ k := by omega
        have htk : l.take k = l := List.take_of_length_le (by rw [HLN.out]; exact hkm)
        have hT := HT.out
        rw [htk] at hT
        have hfin : Aside0 (GreatP l (.returned (.bool (decide ((3000 : Int) < T))))) := ⟨⟨_, rfl, fun h => ⟨by rw [HLN.out]; exact h80', by have := of_decide_eq_false h; omega⟩⟩⟩
        clear HT HK htk hT
        go_wp2_with (fail)
        go_ret
        exact ⟨hfin.out, rfl⟩
end Go.Proofs.Ytfaibpdoalbkpaa.Bu
