/- turns' iterator: what it gives, in a fence. -/
import Derived.Test.YtcbddmmoioggaaaFh
namespace Go.Proofs.Ytcbddmmoioggaaa.Sp
open Go.RowKit Go.Shelf Go.Proofs.YtcbddmmoioggaaaW.PrintWords Go.Proofs.YtcbddmmoioggaaaW.PrintLast Go.Proofs.YtcbddmmoioggaaaW.PrintMore
attribute [local go_sem] max2_int min2_int max_two min_two max_three min_three max_four min_four
attribute [local go_sem] Oper.semAt_some
set_option linter.unusedVariables false
set_option linter.unusedSimpArgs false
/-- Whatever the iterator reads lies as it lay. -/
def KT (W W' : World) : Prop := ∀ (k : Nat) (row : Array Value) (t : TypeId), (t = 52 ∨ t = 53 ∨ t = 56) → W.heap[k]? = some (.cells row t (0, 0)) → W'.heap[k]? = some (.cells row t (0, 0))
theorem KT.refl (W : World) : KT W W := fun _ _ _ _ h => h
theorem KT.trans {A B C : World} (h : KT A B) (k : KT B C) : KT A C := fun i r t ht hi => k i r t ht (h i r t ht hi)
theorem KT.of_below {W W' : World} (h : Below W.heap.size W W') : KT W W' := fun k row t _ hk => (h.block k (blk_lt hk)).trans hk
theorem KT.put (W : World) (l : Nat) (o o' : Obj) (h : W.heap[l]? = some o) (ho : o.isCells = false) : KT W (W.putObj l o') := fun k row t _ hk => by
  by_cases hkl : k = l
  · subst hkl
    rw [h] at hk
    injection hk with hk
    subst hk
    cases ho
  · exact (World.putObj_heap_other hkl).trans hk
def encY (y : Yd) : Array Value := #[.int .i64 y.p, .agg #[.int .i64 y.x, .int .i64 y.y]]
theorem yl_cons (e : En) (E : List En) (o : Int × Int) : yl (e :: E) o = (match E with
    | [] => [⟨e.a, (bump o e).1, (bump o e).2⟩]
    | e' :: _ => if e'.a = e.a then [] else [⟨e.a, (bump o e).1, (bump o e).2⟩]) ++ yl E (bump o e) := rfl
theorem upon_round {n : Nat} {P : Program} {o : Oper} {a : Act} {next : Act → World → Prop} {Q : Exit → Act → World → Prop} {r : Result Next} {l : Nat} {fn : FuncId} {tmps : Array Value} {assign body : Code} {w : World} (hx : r = .ok (.round l fn tmps assign body) w)
    (h : RoundIn Fence.wide (n - 1) P l fn tmps assign body w fun
      | .returned v, w2 => next (a.put o.dst v) w2
      | .panicked chain, w2 => Q (.panic chain) a w2
      | .outgrown, _ => LetsOut Q) : o.uponIn Fence.wide n P a next Q r := by
  subst hx
  exact ⟨fun h => by simp [Fence.wide] at h, h⟩
theorem set_grown (w : World) (b i : Nat) (v : Value) : w.grownBy (w.setCell ⟨b, i, none⟩ v).drew (some b) :=
  ⟨rfl, rfl, rfl, by show w.heap.size ≤ (w.setCell ⟨b, i, none⟩ v).heap.size; simp, fun k hk hne => Below.heap_setCell w ⟨b, i, none⟩ v k (fun e => hne (by rw [e]))⟩
theorem yl_last {E : List En} {k : Nat} {e : En} (he : E[k]? = some e) (hl : E.length = k + 1) (o : Int × Int) : yl (E.drop k) o = [⟨e.a, (bump o e).1, (bump o e).2⟩] := by
  obtain ⟨h1, h2⟩ := List.getElem?_eq_some_iff.1 he
  rw [List.drop_eq_getElem_cons h1, h2, List.drop_of_length_le (by omega)]
  rfl
theorem yl_same {E : List En} {k : Nat} {e e' : En} (he : E[k]? = some e) (he' : E[k + 1]? = some e') (ha : e'.a = e.a) (o : Int × Int) : yl (E.drop k) o = yl (E.drop (k + 1)) (bump o e) := by
  obtain ⟨h1, h2⟩ := List.getElem?_eq_some_iff.1 he
  obtain ⟨h3, h4⟩ := List.getElem?_eq_some_iff.1 he'
  rw [List.drop_eq_getElem_cons h1, h2, List.drop_eq_getElem_cons h3, h4, yl_cons]
  simp only
  rw [if_pos ha]
  rfl
theorem yl_next {E : List En} {k : Nat} {e e' : En} (he : E[k]? = some e) (he' : E[k + 1]? = some e') (ha : e'.a ≠ e.a) (o : Int × Int) : yl (E.drop k) o = ⟨e.a, (bump o e).1, (bump o e).2⟩ :: yl (E.drop (k + 1)) (bump o e) := by
  obtain ⟨h1, h2⟩ := List.getElem?_eq_some_iff.1 he
  obtain ⟨h3, h4⟩ := List.getElem?_eq_some_iff.1 he'
  rw [List.drop_eq_getElem_cons h1, h2, List.drop_eq_getElem_cons h3, h4, yl_cons]
  simp only
  rw [if_neg ha]
  rfl
theorem en_at {w : World} {ad : Addr} {n : Nat} {l : List En} {k : Nat} {e : En} (h : ReadsRow REn 3 w (some ad) n l) (ha : l[k]? = some e) :
    w.cell? (ad.add (k * 3)) = some (.int .i64 e.a) ∧ w.cell? ⟨(ad.add (k * 3)).block, (ad.add (k * 3)).off + 1, none⟩ = some (.int .i64 e.w) ∧ w.cell? ⟨(ad.add (k * 3)).block, (ad.add (k * 3)).off + 2, none⟩ = some (.int .i64 e.b) := by
  have hl := (List.getElem?_eq_some_iff.1 ha).1
  obtain ⟨ad', hA, hr⟩ := h.2.2 (by have := h.1; omega)
  injection hA with hA
  subst hA
  obtain ⟨c, hc5, hc, hcell⟩ := hr k e ha
  have hc' : c = enc3 e := hc
  subst hc'
  have e' : ∀ j u, (enc3 e)[j]? = some u → w.cell? ((ad.add (k * 3)).add j) = some u := fun j u h => by
    rw [Go.Deep.add_add]
    exact hcell j u h
  exact ⟨e' 0 _ rfl, e' 1 _ rfl, e' 2 _ rfl⟩
set_option maxRecDepth 100000 in
set_option maxHeartbeats 16000000 in
theorem turns2_over (n : Nat) (hn : 1 ≤ n) (p g N c : Nat) (E : List En) (w : World) (hp : w.heap[p]? = some (.cells #[.slice (some ⟨g, 0, none⟩) N c] 53 (0, 0))) (hR : ReadsRow REn 3 w (some ⟨g, 0, none⟩) N E) (hkind : ∃ cs, w.heap[g]? = some (.cells cs 56 (0, 0)))
    (hE : ∀ e ∈ E, (e.w = 0 ∨ e.w = 1) ∧ (e.b = 1 ∨ e.b = -1)) (hN : N ≤ 1000000) (h0N : 0 < N) :
    GoesOver Fence.wide n Try.prog 42 #[pv p] encY 52 KT (yl E (0, 0)) w := by
  intro l J W hW hJ hY h0
  obtain ⟨csg, hcsg⟩ := hkind
  have HP := Aside0.mk ((hW.block p (blk_lt hp)).trans hp)
  have HG := Aside0.mk ((hW.block g (blk_lt hcsg)).trans hcsg)
  have HRW : Aside0 (∀ (i : Nat) (e : En), E[i]? = some e → W.cell? ⟨g, i * 3, none⟩ = some (.int .i64 e.a) ∧ W.cell? ⟨g, i * 3 + 1, none⟩ = some (.int .i64 e.w) ∧ W.cell? ⟨g, i * 3 + 2, none⟩ = some (.int .i64 e.b)) := ⟨fun i e he => by
    obtain ⟨e0, e1, e2⟩ := en_at hR he
    rw [add_plain] at e0 e1 e2
    exact ⟨pw_cell_below hW e0, pw_cell_below hW e1, pw_cell_below hW e2⟩⟩
  have HLN := Aside0.mk hR.1
  have HE := Aside0.mk hE
  have HJ := Aside0.mk hJ
  have HY := Aside0.mk hY
  have H0 := Aside0.mk h0
  have cp : W.cell? ⟨p, 0, none⟩ = some (.slice (some ⟨g, 0, none⟩) N c) := cell_of_row _ _ 0 _ _ _ HP.out
  clear hp hR hE hJ hY h0 hcsg hW
  refine callsIn_of_wp Try.func42 rfl trivial ?_ rfl
  simp only [Try.ntmps42, List.size_toArray, List.length_cons, List.length_nil, Nat.reduceAdd, Nat.reduceSub, Array.replicate_succ, Array.replicate_zero, List.push_toArray, List.append_toArray, List.nil_append, List.cons_append]
  obtain ⟨V, hV⟩ : ∃ V, W.alloc (.cells #[.int .i64 0, .int .i64 0] 52) = V := ⟨_, rfl⟩
  obtain ⟨b3, hb3⟩ : ∃ q, W.heap.size = q := ⟨_, rfl⟩
  have hbV : Below W.heap.size W V := by rw [← hV]; exact below_alloc (Below.refl _ W) _
  have HO3 : Aside0 (V.heap[b3]? = some (.cells #[.int .i64 0, .int .i64 0] 52 (0, 0))) := ⟨by rw [← hV, ← hb3]; exact heap_alloc_new _ _⟩
  have HKV := Aside0.mk (KT.of_below hbV)
  have H0V : Aside0 (J [] V) := ⟨by rw [← hV]; exact HJ.out [] W _ none H0.out (World.grownBy_alloc W _ none) (fun r e => by cases e)⟩
  have HB3 := Aside0.mk hb3
  have cpV := pw_cell_below hbV cp
  clear hbV H0 cp
  gi_wp2
  gi_loopg [8] N (fun gk v8 wr => ∃ (k : Nat) (o0 o1 : Int) (Y : List Yd), v8 = .int .i64 (k : Int) ∧ Aside0 (k + gk = N) ∧ Aside0 (wr.heap[b3]? = some (.cells #[.int .i64 o0, .int .i64 o1] 52 (0, 0))) ∧ Aside0 (J Y wr) ∧ Aside0 (Y ++ yl (E.drop k) (o0, o1) = yl E (0, 0)) ∧ Aside0 (KT W wr) ∧ Aside0 (-(k : Int) ≤ o0 ∧ o0 ≤ (k : Int) ∧ -(k : Int) ≤ o1 ∧ o1 ≤ (k : Int)))
  case atStart => exact ⟨0, 0, 0, [], rfl, ⟨by omega⟩, HO3, H0V, ⟨rfl⟩, HKV, ⟨by omega⟩⟩
  case round =>
    clear HO3 H0V HKV
    obtain ⟨k, o0, o1, Y, rfl, HK, HO, HJY, HYL, HKT, HOB⟩ := hrel
    have cp : wr.cell? ⟨p, 0, none⟩ = some (.slice (some ⟨g, 0, none⟩) N c) := cell_of_row _ _ 0 _ _ _ (HKT.out _ _ _ (.inr (.inl rfl)) HP.out)
    by_cases hkN : k < N
    · obtain ⟨gn, rfl⟩ : ∃ gn, gk = gn + 1 := ⟨gk - 1, by have := HK.out; omega⟩
      obtain ⟨e, he⟩ : ∃ e, E[k]? = some e := ⟨_, List.getElem?_eq_getElem (by rw [HLN.out]; exact hkN)⟩
      have HG' := Aside0.mk (HKT.out _ _ _ (.inr (.inr rfl)) HG.out)
      have HRD : Aside0 (∀ (i : Nat) (e : En), E[i]? = some e → wr.cell? ⟨g, i * 3, none⟩ = some (.int .i64 e.a) ∧ wr.cell? ⟨g, i * 3 + 1, none⟩ = some (.int .i64 e.w) ∧ wr.cell? ⟨g, i * 3 + 2, none⟩ = some (.int .i64 e.b)) := ⟨fun i e he => by
        obtain ⟨e0, e1, e2⟩ := HRW.out i e he
        rw [cell_of_row _ _ _ _ _ _ HG.out] at e0 e1 e2
        rw [cell_of_row _ _ _ _ _ _ HG'.out, cell_of_row _ _ _ _ _ _ HG'.out, cell_of_row _ _ _ _ _ _ HG'.out]
        exact ⟨e0, e1, e2⟩⟩
      obtain ⟨e0, e1, e2⟩ := HRD.out k e he
      have q0 : wr.cell? ⟨b3, 0, none⟩ = some (.int .i64 o0) := cell_of_row _ _ _ _ _ _ HO.out
      have q1 : wr.cell? ⟨b3, 1, none⟩ = some (.int .i64 o1) := cell_of_row _ _ _ _ _ _ HO.out
      have fq := fun j => blk_frozen HO.out j
      have p0 : (0 : Int) ≤ (k : Int) := by omega
      have p1 : (k : Int) < (N : Int) := by omega
      have hwk : IntKind.i64.wrap ((k : Int) + 1) = (k : Int) + 1 := IntWalk.i64_in _ (by omega)
      have hwb := (HE.out e (List.mem_of_getElem? he)).1
      have hbb := (HE.out e (List.mem_of_getElem? he)).2
      have HEK := Aside0.mk he
      clear he
      gi_upto_region 4 with (fail)
      obtain ⟨bx, hbx⟩ : ∃ q, wr.heap.size = q := ⟨_, rfl⟩
      obtain ⟨wx, hwx⟩ : ∃ q, wr.alloc (.cells #[.int .i64 e.a, .int .i64 e.w, .int .i64 e.b] 56) = q := ⟨_, rfl⟩
      rw [hwx, hbx]
      have hbl : Below wr.heap.size wr wx := by rw [← hwx]; exact below_alloc (Below.refl _ wr) _
      have hx8 : wx.heap[bx]? = some (.cells #[.int .i64 e.a, .int .i64 e.w, .int .i64 e.b] 56 (0, 0)) := by rw [← hwx, ← hbx]; exact heap_alloc_new _ _
      have HX8 := Aside0.mk hx8
      have HOX := Aside0.mk ((hbl.block b3 (blk_lt HO.out)).trans HO.out)
      have HJX : Aside0 (J Y wx) := ⟨by rw [← hwx]; exact HJ.out Y wr _ none HJY.out (World.grownBy_alloc wr _ none) (fun r e => by cases e)⟩
      have HKX : Aside0 (KT wr wx) := ⟨KT.of_below hbl⟩
      have x1 : wx.cell? ⟨bx, 1, none⟩ = some (.int .i64 e.w) := cell_of_row _ _ _ _ _ _ hx8
      have x2 : wx.cell? ⟨bx, 2, none⟩ = some (.int .i64 e.b) := cell_of_row _ _ _ _ _ _ hx8
      have q0 : wx.cell? ⟨b3, 0, none⟩ = some (.int .i64 o0) := cell_of_row _ _ _ _ _ _ HOX.out
      have q1 : wx.cell? ⟨b3, 1, none⟩ = some (.int .i64 o1) := cell_of_row _ _ _ _ _ _ HOX.out
      have fq := fun j => blk_frozen HOX.out j
      have hob := HOB.out
      have hw0 : IntKind.i64.wrap (o0 + e.b) = o0 + e.b := IntWalk.i64_in _ (by omega)
      have hw1 : IntKind.i64.wrap (o1 + e.b) = o1 + e.b := IntWalk.i64_in _ (by omega)
      clear hwx hbx hbl hx8 e0 e1 e2 HO HJY HOB
      rcases hwb with hwb | hwb
      · rw [hwb] at x1
        refine region_last_wide (S := (fun w' => w'.cell? ⟨bx, 1, none⟩ = some (.int .i64 0) ∧ w'.cell? ⟨bx, 2, none⟩ = some (.int .i64 e.b) ∧ w'.cell? ⟨b3, 0, none⟩ = some (.int .i64 o0))) (ds := [8]) (by kernel_rfl) ?_ (fun hHeld => ?_)
        · exact ⟨x1, x2, q0⟩
        refine wpAnyLast_take (i := 0) (v := ?_) rfl (by kernel_rfl) (by kernel_rfl) (by kernel_rfl) (by kernel_rfl) (by kernel_rfl) (fun _ _ _ h => h) (Or.inl ⟨by rfl, ?_⟩) (by assumption) ?_
        rotate_left
        · intro w hSw
          go_simp
          try with_reducible rfl
        simp only [Act.put, List.getElem_toArray, List.getElem_cons_zero, List.getElem_cons_succ, List.setIfInBounds_toArray, List.set_cons_zero, List.set_cons_succ]
        refine wpAnyLast_take (i := 1) (v := ?_) rfl (by kernel_rfl) (by kernel_rfl) (by kernel_rfl) (by kernel_rfl) (by kernel_rfl) (fun _ _ _ h => h) (Or.inl ⟨by rfl, ?_⟩) (by assumption) ?_
        rotate_left
        · intro w hSw
          go_simp
          try with_reducible rfl
        simp only [Act.put, List.getElem_toArray, List.getElem_cons_zero, List.getElem_cons_succ, List.setIfInBounds_toArray, List.set_cons_zero, List.set_cons_succ]
        refine wpAnyLast_take (i := 2) (v := ?_) rfl (by kernel_rfl) (by kernel_rfl) (by kernel_rfl) (by kernel_rfl) (by kernel_rfl) (fun _ _ _ h => h) (Or.inl ⟨by rfl, ?_⟩) (by assumption) ?_
        rotate_left
        · intro w hSw
          go_simp
          try with_reducible rfl
        simp only [Act.put, List.getElem_toArray, List.getElem_cons_zero, List.getElem_cons_succ, List.setIfInBounds_toArray, List.set_cons_zero, List.set_cons_succ]
        refine wpAnyLast_take (i := 3) (v := ?_) rfl (by kernel_rfl) (by kernel_rfl) (by kernel_rfl) (by kernel_rfl) (by kernel_rfl) (fun _ _ _ h => h) (Or.inl ⟨by rfl, ?_⟩) (by assumption) ?_
        rotate_left
        · intro w hSw
          go_simp
          try with_reducible rfl
        simp only [Act.put, List.getElem_toArray, List.getElem_cons_zero, List.getElem_cons_succ, List.setIfInBounds_toArray, List.set_cons_zero, List.set_cons_succ]
        refine wpAnyLast_take (i := 4) (v := ?_) rfl (by kernel_rfl) (by kernel_rfl) (by kernel_rfl) (by kernel_rfl) (by kernel_rfl) (fun _ _ _ h => h) (Or.inl ⟨by rfl, ?_⟩) (by assumption) ?_
        rotate_left
        · intro w hSw
          go_simp
          try with_reducible rfl
        simp only [Act.put, List.getElem_toArray, List.getElem_cons_zero, List.getElem_cons_succ, List.setIfInBounds_toArray, List.set_cons_zero, List.set_cons_succ]
        refine wpAnyLast_take (i := 5) (v := ?_) rfl (by kernel_rfl) (by kernel_rfl) (by kernel_rfl) (by kernel_rfl) (by kernel_rfl) (fun _ _ _ h => h) (Or.inl ⟨by rfl, ?_⟩) (by assumption) ?_
        rotate_left
        · intro w hSw
          go_simp
          try with_reducible rfl
        simp only [Act.put, List.getElem_toArray, List.getElem_cons_zero, List.getElem_cons_succ, List.setIfInBounds_toArray, List.set_cons_zero, List.set_cons_succ]
        refine wpAnyLast_take (i := 6) (v := ?_) rfl (by kernel_rfl) (by kernel_rfl) (by kernel_rfl) (by kernel_rfl) (by kernel_rfl) (fun _ _ _ h => h) (Or.inl ⟨by rfl, ?_⟩) (by assumption) ?_
        rotate_left
        · intro w hSw
          go_simp
          try with_reducible rfl
        simp only [Act.put, List.getElem_toArray, List.getElem_cons_zero, List.getElem_cons_succ, List.setIfInBounds_toArray, List.set_cons_zero, List.set_cons_succ]
        refine wpAnyLast_take (i := 7) (v := ?_) rfl (by kernel_rfl) (by kernel_rfl) (by kernel_rfl) (by kernel_rfl) (by kernel_rfl) (fun _ _ _ h => h) (Or.inl ⟨by rfl, ?_⟩) (by assumption) ?_
        rotate_left
        · intro w hSw
          go_simp
          try with_reducible rfl
        simp only [Act.put, List.getElem_toArray, List.getElem_cons_zero, List.getElem_cons_succ, List.setIfInBounds_toArray, List.set_cons_zero, List.set_cons_succ]
        refine wpAnyLast_ready (rs := [8]) (by kernel_rfl) (by simp) ?_
        refine AllReadyL.cons_last rfl (by decide) (fun K hK => ?_) AllReadyL.nil
        go_simp
        refine hK.out _ _ ?_
        clear hK K hHeld
        try simp only [Act.put, List.getElem_toArray, List.getElem_cons_zero, List.getElem_cons_succ, List.setIfInBounds_toArray, List.set_cons_zero, List.set_cons_succ]
        refine wpAnyLast_done (by kernel_rfl) ?_ _
        refine Only.normal ?_
        obtain ⟨Z0, hZ0⟩ : ∃ q, o0 + e.b = q := ⟨_, rfl⟩
        obtain ⟨Z1, hZ1⟩ : ∃ q, o1 = q := ⟨_, rfl⟩
        have hbump : bump (o0, o1) e = (Z0, Z1) := by unfold bump; rw [if_pos hwb]; rw [← hZ0, ← hZ1]
        have HBU := Aside0.mk hbump
        have HZB : Aside0 (-((k : Int) + 1) ≤ Z0 ∧ Z0 ≤ (k : Int) + 1 ∧ -((k : Int) + 1) ≤ Z1 ∧ Z1 ≤ (k : Int) + 1) := ⟨by omega⟩
        obtain ⟨wy, hwy⟩ : ∃ q, (wx.setCell ⟨b3, 0, none⟩ (.int .i64 (o0 + e.b))).drew = q := ⟨_, rfl⟩
        rw [hwy]
        have HOY : Aside0 (wy.heap[b3]? = some (.cells #[.int .i64 Z0, .int .i64 Z1] 52 (0, 0))) := ⟨by
          rw [← hwy, ← hZ0, ← hZ1]
          exact blk_set HOX.out 0 _⟩
        have HGR : Aside0 (wx.grownBy wy (some b3)) := ⟨by rw [← hwy]; exact set_grown wx b3 0 _⟩
        clear hwy hZ0 hZ1 hbump x1 x2 q0 q1 fq hob hw0 hw1 hwb hbb
        have HJY : Aside0 (J Y wy) := ⟨HJ.out Y wx wy (some b3) HJX.out HGR.out (fun r e => by cases e; exact ⟨by have := HB3.out; omega, _, HOX.out⟩)⟩
        have HKY : Aside0 (KT W wy) := ⟨fun j row t ht hj => by
          have hjl := blk_lt hj
          have h1 := (HKT.out.trans HKX.out) j row t ht hj
          have hne : some j ≠ some b3 := fun e => by
            injection e with e
            have := HB3.out
            omega
          exact (HGR.out.block j (blk_lt h1) hne).trans h1⟩
        have hbx3 : some bx ≠ some b3 := fun e => by
          injection e with e
          have h1 := HX8.out
          rw [e, HOX.out] at h1
          injection h1 with h1
          injection h1 with _ h2
          exact absurd h2 (by decide)
        have HXY := Aside0.mk ((HGR.out.block bx (blk_lt HX8.out) hbx3).trans HX8.out)
        have hgy := HKY.out _ _ _ (.inr (.inr rfl)) HG.out
        have cp : wy.cell? ⟨p, 0, none⟩ = some (.slice (some ⟨g, 0, none⟩) N c) := cell_of_row _ _ 0 _ _ _ (HKY.out _ _ _ (.inr (.inl rfl)) HP.out)
        have x0 : wy.cell? ⟨bx, 0, none⟩ = some (.int .i64 e.a) := cell_of_row _ _ _ _ _ _ HXY.out
        have q0 : wy.cell? ⟨b3, 0, none⟩ = some (.int .i64 Z0) := cell_of_row _ _ _ _ _ _ HOY.out
        have q1 : wy.cell? ⟨b3, 1, none⟩ = some (.int .i64 Z1) := cell_of_row _ _ _ _ _ _ HOY.out
        have HCE : Aside0 (∀ e', E[k + 1]? = some e' → wy.cell? ⟨g, (k + 1) * 3, none⟩ = some (.int .i64 e'.a)) := ⟨fun e' he' => by
          have h1 := (HRW.out (k + 1) e' he').1
          rw [cell_of_row _ _ _ _ _ _ HG.out] at h1
          rw [cell_of_row _ _ _ _ _ _ hgy]
          exact h1⟩
        clear hbx3 hgy HX8 HOX HJX HKX HGR HRD HG' HKT
        gi_upto_region 5 with (fail)
        by_cases hkl : k + 1 = N
        · have bl : ((k : Int) + 1 == (N : Int)) = true := beq_iff_eq.mpr (by omega)
          have hyl := HYL.out
          rw [yl_last HEK.out (by rw [HLN.out]; exact hkl.symm), HBU.out] at hyl
          have HPRE : Aside0 (Y ++ [⟨e.a, Z0, Z1⟩] <+: yl E (0, 0)) := ⟨by rw [← hyl]; exact List.prefix_refl _⟩
          have HYN : Aside0 (Y ++ [⟨e.a, Z0, Z1⟩] ++ yl (E.drop (k + 1)) (Z0, Z1) = yl E (0, 0)) := ⟨by
            rw [List.drop_of_length_le (by rw [HLN.out]; omega)]
            simpa [yl] using hyl⟩
          clear hyl HYL HCE
          refine region_F (S := (fun w' => w'.cell? ⟨p, 0, none⟩ = some (.slice (some ⟨g, 0, none⟩) N c) ∧ w'.cell? ⟨bx, 0, none⟩ = some (.int .i64 e.a) ∧ w'.cell? ⟨b3, 0, none⟩ = some (.int .i64 Z0) ∧ w'.cell? ⟨b3, 1, none⟩ = some (.int .i64 Z1))) (by kernel_rfl) ?_ (fun hHeld => ?_)
          · exact ⟨cp, x0, q0, q1⟩
          refine anyF_take (i := 0) (v := ?_) rfl (by kernel_rfl) (by kernel_rfl) (by kernel_rfl) (fun _ _ _ h => h) (Or.inl ⟨by rfl, ?_⟩) (by assumption) ?_
          rotate_left
          · intro w hSw
            go_simp
            try with_reducible rfl
          simp only [Act.put, List.getElem_toArray, List.getElem_cons_zero, List.getElem_cons_succ, List.setIfInBounds_toArray, List.set_cons_zero, List.set_cons_succ]
          refine anyF_take (i := 1) (v := ?_) rfl (by kernel_rfl) (by kernel_rfl) (by kernel_rfl) (fun _ _ _ h => h) (Or.inl ⟨by rfl, ?_⟩) (by assumption) ?_
          rotate_left
          · intro w hSw
            go_simp
            try with_reducible rfl
          simp only [Act.put, List.getElem_toArray, List.getElem_cons_zero, List.getElem_cons_succ, List.setIfInBounds_toArray, List.set_cons_zero, List.set_cons_succ]
          refine anyF_take (i := 2) (v := ?_) rfl (by kernel_rfl) (by kernel_rfl) (by kernel_rfl) (fun _ _ _ h => h) (Or.inl ⟨by rfl, ?_⟩) (by assumption) ?_
          rotate_left
          · intro w hSw
            go_simp
            try with_reducible rfl
          simp only [Act.put, List.getElem_toArray, List.getElem_cons_zero, List.getElem_cons_succ, List.setIfInBounds_toArray, List.set_cons_zero, List.set_cons_succ]
          refine anyF_take (i := 3) (v := ?_) rfl (by kernel_rfl) (by kernel_rfl) (by kernel_rfl) (fun _ _ _ h => h) (Or.inl ⟨by rfl, ?_⟩) (by assumption) ?_
          rotate_left
          · intro w hSw
            go_simp
            try with_reducible rfl
          simp only [Act.put, List.getElem_toArray, List.getElem_cons_zero, List.getElem_cons_succ, List.setIfInBounds_toArray, List.set_cons_zero, List.set_cons_succ]
          refine anyF_take (i := 4) (v := ?_) rfl (by kernel_rfl) (by kernel_rfl) (by kernel_rfl) (fun _ _ _ h => h) (Or.inl ⟨by rfl, ?_⟩) (by assumption) ?_
          rotate_left
          · intro w hSw
            go_simp
            try with_reducible rfl
          simp only [Act.put, List.getElem_toArray, List.getElem_cons_zero, List.getElem_cons_succ, List.setIfInBounds_toArray, List.set_cons_zero, List.set_cons_succ]
          refine anyF_take (i := 5) (v := ?_) rfl (by kernel_rfl) (by kernel_rfl) (by kernel_rfl) (fun _ _ _ h => h) (Or.inl ⟨by rfl, ?_⟩) (by assumption) ?_
          rotate_left
          · intro w hSw
            go_simp
            try with_reducible rfl
          simp only [Act.put, List.getElem_toArray, List.getElem_cons_zero, List.getElem_cons_succ, List.setIfInBounds_toArray, List.set_cons_zero, List.set_cons_succ]
          refine anyF_take (i := 6) (v := undef) rfl (by kernel_rfl) (by kernel_rfl) (by kernel_rfl) (fun _ _ _ h => h) (Or.inr ⟨by rfl, rfl⟩) (by assumption) ?_
          simp only [Act.put, List.getElem_toArray, List.getElem_cons_zero, List.getElem_cons_succ, List.setIfInBounds_toArray, List.set_cons_zero, List.set_cons_succ]
          refine anyF_take (i := 7) (v := undef) rfl (by kernel_rfl) (by kernel_rfl) (by kernel_rfl) (fun _ _ _ h => h) (Or.inr ⟨by rfl, rfl⟩) (by assumption) ?_
          simp only [Act.put, List.getElem_toArray, List.getElem_cons_zero, List.getElem_cons_succ, List.setIfInBounds_toArray, List.set_cons_zero, List.set_cons_succ]
          refine anyF_take (i := 8) (v := undef) rfl (by kernel_rfl) (by kernel_rfl) (by kernel_rfl) (fun _ _ _ h => h) (Or.inr ⟨by rfl, rfl⟩) (by assumption) ?_
          simp only [Act.put, List.getElem_toArray, List.getElem_cons_zero, List.getElem_cons_succ, List.setIfInBounds_toArray, List.set_cons_zero, List.set_cons_succ]
          refine anyF_take (i := 9) (v := undef) rfl (by kernel_rfl) (by kernel_rfl) (by kernel_rfl) (fun _ _ _ h => h) (Or.inr ⟨by rfl, rfl⟩) (by assumption) ?_
          simp only [Act.put, List.getElem_toArray, List.getElem_cons_zero, List.getElem_cons_succ, List.setIfInBounds_toArray, List.set_cons_zero, List.set_cons_succ]
          refine anyF_take (i := 10) (v := undef) rfl (by kernel_rfl) (by kernel_rfl) (by kernel_rfl) (fun _ _ _ h => h) (Or.inr ⟨by rfl, rfl⟩) (by assumption) ?_
          simp only [Act.put, List.getElem_toArray, List.getElem_cons_zero, List.getElem_cons_succ, List.setIfInBounds_toArray, List.set_cons_zero, List.set_cons_succ]
          refine anyF_take (i := 11) (v := undef) rfl (by kernel_rfl) (by kernel_rfl) (by kernel_rfl) (fun _ _ _ h => h) (Or.inr ⟨by rfl, rfl⟩) (by assumption) ?_
          simp only [Act.put, List.getElem_toArray, List.getElem_cons_zero, List.getElem_cons_succ, List.setIfInBounds_toArray, List.set_cons_zero, List.set_cons_succ]
          refine anyF_take (i := 12) (v := undef) rfl (by kernel_rfl) (by kernel_rfl) (by kernel_rfl) (fun _ _ _ h => h) (Or.inr ⟨by rfl, rfl⟩) (by assumption) ?_
          simp only [Act.put, List.getElem_toArray, List.getElem_cons_zero, List.getElem_cons_succ, List.setIfInBounds_toArray, List.set_cons_zero, List.set_cons_succ]
          refine anyF_take (i := 13) (v := undef) rfl (by kernel_rfl) (by kernel_rfl) (by kernel_rfl) (fun _ _ _ h => h) (Or.inr ⟨by rfl, rfl⟩) (by assumption) ?_
          simp only [Act.put, List.getElem_toArray, List.getElem_cons_zero, List.getElem_cons_succ, List.setIfInBounds_toArray, List.set_cons_zero, List.set_cons_succ]
          refine anyF_take (i := 14) (v := undef) rfl (by kernel_rfl) (by kernel_rfl) (by kernel_rfl) (fun _ _ _ h => h) (Or.inr ⟨by rfl, rfl⟩) (by assumption) ?_
          simp only [Act.put, List.getElem_toArray, List.getElem_cons_zero, List.getElem_cons_succ, List.setIfInBounds_toArray, List.set_cons_zero, List.set_cons_succ]
          refine anyF_take (i := 15) (v := ?_) rfl (by kernel_rfl) (by kernel_rfl) (by kernel_rfl) (fun _ _ _ h => h) (Or.inl ⟨by rfl, ?_⟩) (by assumption) ?_
          rotate_left
          · intro w hSw
            go_simp
            try with_reducible rfl
          simp only [Act.put, List.getElem_toArray, List.getElem_cons_zero, List.getElem_cons_succ, List.setIfInBounds_toArray, List.set_cons_zero, List.set_cons_succ]
          refine anyF_take (i := 16) (v := ?_) rfl (by kernel_rfl) (by kernel_rfl) (by kernel_rfl) (fun _ _ _ h => h) (Or.inl ⟨by rfl, ?_⟩) (by assumption) ?_
          rotate_left
          · intro w hSw
            go_simp
            try with_reducible rfl
          simp only [Act.put, List.getElem_toArray, List.getElem_cons_zero, List.getElem_cons_succ, List.setIfInBounds_toArray, List.set_cons_zero, List.set_cons_succ]
          refine anyF_take (i := 17) (v := ?_) rfl (by kernel_rfl) (by kernel_rfl) (by kernel_rfl) (fun _ _ _ h => h) (Or.inl ⟨by rfl, ?_⟩) (by assumption) ?_
          rotate_left
          · intro w hSw
            go_simp
            try with_reducible rfl
          simp only [Act.put, List.getElem_toArray, List.getElem_cons_zero, List.getElem_cons_succ, List.setIfInBounds_toArray, List.set_cons_zero, List.set_cons_succ]
          refine anyF_take (i := 18) (v := ?_) rfl (by kernel_rfl) (by kernel_rfl) (by kernel_rfl) (fun _ _ _ h => h) (Or.inl ⟨by rfl, ?_⟩) (by assumption) ?_
          rotate_left
          · intro w hSw
            go_simp
            try with_reducible rfl
          simp only [Act.put, List.getElem_toArray, List.getElem_cons_zero, List.getElem_cons_succ, List.setIfInBounds_toArray, List.set_cons_zero, List.set_cons_succ]
          refine anyF_take (i := 19) (v := ?_) rfl (by kernel_rfl) (by kernel_rfl) (by kernel_rfl) (fun _ _ _ h => h) (Or.inl ⟨by rfl, ?_⟩) (by assumption) ?_
          rotate_left
          · intro w hSw
            go_simp
            try with_reducible rfl
          simp only [Act.put, List.getElem_toArray, List.getElem_cons_zero, List.getElem_cons_succ, List.setIfInBounds_toArray, List.set_cons_zero, List.set_cons_succ]
          refine anyF_take (i := 20) (v := ?_) rfl (by kernel_rfl) (by kernel_rfl) (by kernel_rfl) (fun _ _ _ h => h) (Or.inl ⟨by rfl, ?_⟩) (by assumption) ?_
          rotate_left
          · intro w hSw
            go_simp
            try with_reducible rfl
          simp only [Act.put, List.getElem_toArray, List.getElem_cons_zero, List.getElem_cons_succ, List.setIfInBounds_toArray, List.set_cons_zero, List.set_cons_succ]
          obtain ⟨fn, tmps, assign, body, hy, hR⟩ := HY.out Y ⟨e.a, Z0, Z1⟩ wy.drew (HJ.out Y wy _ none HJY.out ⟨rfl, rfl, rfl, Nat.le_refl _, fun _ _ _ => rfl⟩ (fun r e => by cases e)) HPRE.out
          dsimp only [encY] at hy
          refine anyF_one (i := 21) (by kernel_rfl) rfl (fun K' hK => ?_)
          rw [if_pos (by rfl)]
          refine ⟨wide_about, ?_⟩
          rw [show Fence.wide.round = none from rfl, Oper.semAt_none]
          refine upon_round (l := l) (fn := fn) (tmps := tmps) (assign := assign) (body := body) (w := wy.drew) ?_ ?_
          · go_simp
          refine RoundIn.mono hR ?_
          rintro _ w2 ⟨rfl, hJ2, hK2⟩
          have hky : KT wy w2 := (KT.of_below (below_drew (Below.refl _ wy))).trans hK2
          have HJ2 := Aside0.mk hJ2
          have HK2 := Aside0.mk hky
          have cp : w2.cell? ⟨p, 0, none⟩ = some (.slice (some ⟨g, 0, none⟩) N c) := cell_of_row _ _ 0 _ _ _ ((HKY.out.trans hky) _ _ _ (.inr (.inl rfl)) HP.out)
          have x0 : w2.cell? ⟨bx, 0, none⟩ = some (.int .i64 e.a) := cell_of_row _ _ 0 _ _ _ (hky _ _ _ (.inr (.inr rfl)) HXY.out)
          have q0 : w2.cell? ⟨b3, 0, none⟩ = some (.int .i64 Z0) := cell_of_row _ _ 0 _ _ _ (hky _ _ _ (.inl rfl) HOY.out)
          have q1 : w2.cell? ⟨b3, 1, none⟩ = some (.int .i64 Z1) := cell_of_row _ _ 1 _ _ _ (hky _ _ _ (.inl rfl) HOY.out)
          refine hK _ _ ⟨cp, x0, q0, q1⟩ ?_
          clear hK K' hy hR hJ2 hK2 hky hHeld
          try simp only [Act.put, List.getElem_toArray, List.getElem_cons_zero, List.getElem_cons_succ, List.setIfInBounds_toArray, List.set_cons_zero, List.set_cons_succ]
          have hHeld : (fun w' => w'.cell? ⟨p, 0, none⟩ = some (.slice (some ⟨g, 0, none⟩) N c) ∧ w'.cell? ⟨bx, 0, none⟩ = some (.int .i64 e.a) ∧ w'.cell? ⟨b3, 0, none⟩ = some (.int .i64 Z0) ∧ w'.cell? ⟨b3, 1, none⟩ = some (.int .i64 Z1)) w2 := ⟨cp, x0, q0, q1⟩
          refine anyF_take (i := 22) (v := ?_) rfl (by kernel_rfl) (by kernel_rfl) (by kernel_rfl) (fun _ _ _ h => h) (Or.inl ⟨by rfl, ?_⟩) (by assumption) ?_
          rotate_left
          · intro w hSw
            go_simp
            try with_reducible rfl
          simp only [Act.put, List.getElem_toArray, List.getElem_cons_zero, List.getElem_cons_succ, List.setIfInBounds_toArray, List.set_cons_zero, List.set_cons_succ]
          refine anyF_take (i := 23) (v := ?_) rfl (by kernel_rfl) (by kernel_rfl) (by kernel_rfl) (fun _ _ _ h => h) (Or.inl ⟨by rfl, ?_⟩) (by assumption) ?_
          rotate_left
          · intro w hSw
            go_simp
            try with_reducible rfl
          simp only [Act.put, List.getElem_toArray, List.getElem_cons_zero, List.getElem_cons_succ, List.setIfInBounds_toArray, List.set_cons_zero, List.set_cons_succ]
          refine anyF_done (by kernel_rfl) ?_ _
          refine Only.normal ?_
          clear hHeld cp x0 q0 q1
          gi_wp2
          gi_roundg gn
          case measure => exact Nat.lt_succ_self _
          case rel => exact ⟨k + 1, Z0, Z1, _, by simp, ⟨by have := HK.out; omega⟩, ⟨HK2.out _ _ _ (.inl rfl) HOY.out⟩, HJ2, HYN, ⟨HKY.out.trans HK2.out⟩, ⟨by have := HZB.out; omega⟩⟩
        · obtain ⟨e', he'⟩ : ∃ e', E[k + 1]? = some e' := ⟨_, List.getElem?_eq_getElem (by rw [HLN.out]; omega)⟩
          have bl : ((k : Int) + 1 == (N : Int)) = false := beq_eq_false_iff_ne.mpr (by omega)
          have ce := HCE.out e' he'
          have r0 : (0 : Int) ≤ (k : Int) + 1 := by omega
          have r1 : (k : Int) + 1 < (N : Int) := by omega
          have r2 : ((k : Int) + 1).toNat = k + 1 := by omega
          have HE' := Aside0.mk he'
          clear he' HCE
          by_cases hea : e'.a = e.a
          · have ba : (e'.a == e.a) = true := beq_iff_eq.mpr hea
            have hyl := HYL.out
            rw [yl_same HEK.out HE'.out hea, HBU.out] at hyl
            have HYN := Aside0.mk hyl
            rw [hea] at ce
            clear hyl hea HYL
            refine region_F (S := (fun w' => w'.cell? ⟨p, 0, none⟩ = some (.slice (some ⟨g, 0, none⟩) N c) ∧ w'.cell? ⟨bx, 0, none⟩ = some (.int .i64 e.a) ∧ w'.cell? ⟨b3, 0, none⟩ = some (.int .i64 Z0) ∧ w'.cell? ⟨b3, 1, none⟩ = some (.int .i64 Z1) ∧ w'.cell? ⟨g, (k + 1) * 3, none⟩ = some (.int .i64 e.a))) (by kernel_rfl) ?_ (fun hHeld => ?_)
            · exact ⟨cp, x0, q0, q1, ce⟩
            refine anyF_take (i := 0) (v := ?_) rfl (by kernel_rfl) (by kernel_rfl) (by kernel_rfl) (fun _ _ _ h => h) (Or.inl ⟨by rfl, ?_⟩) (by assumption) ?_
            rotate_left
            · intro w hSw
              go_simp
              try with_reducible rfl
            simp only [Act.put, List.getElem_toArray, List.getElem_cons_zero, List.getElem_cons_succ, List.setIfInBounds_toArray, List.set_cons_zero, List.set_cons_succ]
            refine anyF_take (i := 1) (v := ?_) rfl (by kernel_rfl) (by kernel_rfl) (by kernel_rfl) (fun _ _ _ h => h) (Or.inl ⟨by rfl, ?_⟩) (by assumption) ?_
            rotate_left
            · intro w hSw
              go_simp
              try with_reducible rfl
            simp only [Act.put, List.getElem_toArray, List.getElem_cons_zero, List.getElem_cons_succ, List.setIfInBounds_toArray, List.set_cons_zero, List.set_cons_succ]
            refine anyF_take (i := 2) (v := ?_) rfl (by kernel_rfl) (by kernel_rfl) (by kernel_rfl) (fun _ _ _ h => h) (Or.inl ⟨by rfl, ?_⟩) (by assumption) ?_
            rotate_left
            · intro w hSw
              go_simp
              try with_reducible rfl
            simp only [Act.put, List.getElem_toArray, List.getElem_cons_zero, List.getElem_cons_succ, List.setIfInBounds_toArray, List.set_cons_zero, List.set_cons_succ]
            refine anyF_take (i := 3) (v := ?_) rfl (by kernel_rfl) (by kernel_rfl) (by kernel_rfl) (fun _ _ _ h => h) (Or.inl ⟨by rfl, ?_⟩) (by assumption) ?_
            rotate_left
            · intro w hSw
              go_simp
              try with_reducible rfl
            simp only [Act.put, List.getElem_toArray, List.getElem_cons_zero, List.getElem_cons_succ, List.setIfInBounds_toArray, List.set_cons_zero, List.set_cons_succ]
            refine anyF_take (i := 4) (v := ?_) rfl (by kernel_rfl) (by kernel_rfl) (by kernel_rfl) (fun _ _ _ h => h) (Or.inl ⟨by rfl, ?_⟩) (by assumption) ?_
            rotate_left
            · intro w hSw
              go_simp
              try with_reducible rfl
            simp only [Act.put, List.getElem_toArray, List.getElem_cons_zero, List.getElem_cons_succ, List.setIfInBounds_toArray, List.set_cons_zero, List.set_cons_succ]
            refine anyF_take (i := 5) (v := ?_) rfl (by kernel_rfl) (by kernel_rfl) (by kernel_rfl) (fun _ _ _ h => h) (Or.inl ⟨by rfl, ?_⟩) (by assumption) ?_
            rotate_left
            · intro w hSw
              go_simp
              try with_reducible rfl
            simp only [Act.put, List.getElem_toArray, List.getElem_cons_zero, List.getElem_cons_succ, List.setIfInBounds_toArray, List.set_cons_zero, List.set_cons_succ]
            refine anyF_take (i := 6) (v := ?_) rfl (by kernel_rfl) (by kernel_rfl) (by kernel_rfl) (fun _ _ _ h => h) (Or.inl ⟨by rfl, ?_⟩) (by assumption) ?_
            rotate_left
            · intro w hSw
              go_simp
              try with_reducible rfl
            simp only [Act.put, List.getElem_toArray, List.getElem_cons_zero, List.getElem_cons_succ, List.setIfInBounds_toArray, List.set_cons_zero, List.set_cons_succ]
            refine anyF_take (i := 7) (v := ?_) rfl (by kernel_rfl) (by kernel_rfl) (by kernel_rfl) (fun _ _ _ h => h) (Or.inl ⟨by rfl, ?_⟩) (by assumption) ?_
            rotate_left
            · intro w hSw
              go_simp
              try with_reducible rfl
            simp only [Act.put, List.getElem_toArray, List.getElem_cons_zero, List.getElem_cons_succ, List.setIfInBounds_toArray, List.set_cons_zero, List.set_cons_succ]
            refine anyF_take (i := 8) (v := ?_) rfl (by kernel_rfl) (by kernel_rfl) (by kernel_rfl) (fun _ _ _ h => h) (Or.inl ⟨by rfl, ?_⟩) (by assumption) ?_
            rotate_left
            · intro w hSw
              go_simp
              try with_reducible rfl
            simp only [Act.put, List.getElem_toArray, List.getElem_cons_zero, List.getElem_cons_succ, List.setIfInBounds_toArray, List.set_cons_zero, List.set_cons_succ]
            refine anyF_take (i := 9) (v := ?_) rfl (by kernel_rfl) (by kernel_rfl) (by kernel_rfl) (fun _ _ _ h => h) (Or.inl ⟨by rfl, ?_⟩) (by assumption) ?_
            rotate_left
            · intro w hSw
              go_simp
              try with_reducible rfl
            simp only [Act.put, List.getElem_toArray, List.getElem_cons_zero, List.getElem_cons_succ, List.setIfInBounds_toArray, List.set_cons_zero, List.set_cons_succ]
            refine anyF_take (i := 10) (v := ?_) rfl (by kernel_rfl) (by kernel_rfl) (by kernel_rfl) (fun _ _ _ h => h) (Or.inl ⟨by rfl, ?_⟩) (by assumption) ?_
            rotate_left
            · intro w hSw
              go_simp
              try with_reducible rfl
            simp only [Act.put, List.getElem_toArray, List.getElem_cons_zero, List.getElem_cons_succ, List.setIfInBounds_toArray, List.set_cons_zero, List.set_cons_succ]
            refine anyF_take (i := 11) (v := ?_) rfl (by kernel_rfl) (by kernel_rfl) (by kernel_rfl) (fun _ _ _ h => h) (Or.inl ⟨by rfl, ?_⟩) (by assumption) ?_
            rotate_left
            · intro w hSw
              go_simp
              try with_reducible rfl
            simp only [Act.put, List.getElem_toArray, List.getElem_cons_zero, List.getElem_cons_succ, List.setIfInBounds_toArray, List.set_cons_zero, List.set_cons_succ]
            refine anyF_take (i := 12) (v := ?_) rfl (by kernel_rfl) (by kernel_rfl) (by kernel_rfl) (fun _ _ _ h => h) (Or.inl ⟨by rfl, ?_⟩) (by assumption) ?_
            rotate_left
            · intro w hSw
              go_simp
              try with_reducible rfl
            simp only [Act.put, List.getElem_toArray, List.getElem_cons_zero, List.getElem_cons_succ, List.setIfInBounds_toArray, List.set_cons_zero, List.set_cons_succ]
            refine anyF_take (i := 13) (v := ?_) rfl (by kernel_rfl) (by kernel_rfl) (by kernel_rfl) (fun _ _ _ h => h) (Or.inl ⟨by rfl, ?_⟩) (by assumption) ?_
            rotate_left
            · intro w hSw
              go_simp
              try with_reducible rfl
            simp only [Act.put, List.getElem_toArray, List.getElem_cons_zero, List.getElem_cons_succ, List.setIfInBounds_toArray, List.set_cons_zero, List.set_cons_succ]
            refine anyF_take (i := 14) (v := ?_) rfl (by kernel_rfl) (by kernel_rfl) (by kernel_rfl) (fun _ _ _ h => h) (Or.inl ⟨by rfl, ?_⟩) (by assumption) ?_
            rotate_left
            · intro w hSw
              go_simp
              try with_reducible rfl
            simp only [Act.put, List.getElem_toArray, List.getElem_cons_zero, List.getElem_cons_succ, List.setIfInBounds_toArray, List.set_cons_zero, List.set_cons_succ]
            refine anyF_take (i := 15) (v := ?_) rfl (by kernel_rfl) (by kernel_rfl) (by kernel_rfl) (fun _ _ _ h => h) (Or.inl ⟨by rfl, ?_⟩) (by assumption) ?_
            rotate_left
            · intro w hSw
              go_simp
              try with_reducible rfl
            simp only [Act.put, List.getElem_toArray, List.getElem_cons_zero, List.getElem_cons_succ, List.setIfInBounds_toArray, List.set_cons_zero, List.set_cons_succ]
            refine anyF_take (i := 16) (v := ?_) rfl (by kernel_rfl) (by kernel_rfl) (by kernel_rfl) (fun _ _ _ h => h) (Or.inl ⟨by rfl, ?_⟩) (by assumption) ?_
            rotate_left
            · intro w hSw
              go_simp
              try with_reducible rfl
            simp only [Act.put, List.getElem_toArray, List.getElem_cons_zero, List.getElem_cons_succ, List.setIfInBounds_toArray, List.set_cons_zero, List.set_cons_succ]
            refine anyF_take (i := 17) (v := undef) rfl (by kernel_rfl) (by kernel_rfl) (by kernel_rfl) (fun _ _ _ h => h) (Or.inr ⟨by rfl, rfl⟩) (by assumption) ?_
            simp only [Act.put, List.getElem_toArray, List.getElem_cons_zero, List.getElem_cons_succ, List.setIfInBounds_toArray, List.set_cons_zero, List.set_cons_succ]
            refine anyF_take (i := 18) (v := undef) rfl (by kernel_rfl) (by kernel_rfl) (by kernel_rfl) (fun _ _ _ h => h) (Or.inr ⟨by rfl, rfl⟩) (by assumption) ?_
            simp only [Act.put, List.getElem_toArray, List.getElem_cons_zero, List.getElem_cons_succ, List.setIfInBounds_toArray, List.set_cons_zero, List.set_cons_succ]
            refine anyF_take (i := 19) (v := undef) rfl (by kernel_rfl) (by kernel_rfl) (by kernel_rfl) (fun _ _ _ h => h) (Or.inr ⟨by rfl, rfl⟩) (by assumption) ?_
            simp only [Act.put, List.getElem_toArray, List.getElem_cons_zero, List.getElem_cons_succ, List.setIfInBounds_toArray, List.set_cons_zero, List.set_cons_succ]
            refine anyF_take (i := 20) (v := undef) rfl (by kernel_rfl) (by kernel_rfl) (by kernel_rfl) (fun _ _ _ h => h) (Or.inr ⟨by rfl, rfl⟩) (by assumption) ?_
            simp only [Act.put, List.getElem_toArray, List.getElem_cons_zero, List.getElem_cons_succ, List.setIfInBounds_toArray, List.set_cons_zero, List.set_cons_succ]
            refine anyF_take (i := 21) (v := undef) rfl (by kernel_rfl) (by kernel_rfl) (by kernel_rfl) (fun _ _ _ h => h) (Or.inr ⟨by rfl, rfl⟩) (by assumption) ?_
            simp only [Act.put, List.getElem_toArray, List.getElem_cons_zero, List.getElem_cons_succ, List.setIfInBounds_toArray, List.set_cons_zero, List.set_cons_succ]
            refine anyF_take (i := 22) (v := undef) rfl (by kernel_rfl) (by kernel_rfl) (by kernel_rfl) (fun _ _ _ h => h) (Or.inr ⟨by rfl, rfl⟩) (by assumption) ?_
            simp only [Act.put, List.getElem_toArray, List.getElem_cons_zero, List.getElem_cons_succ, List.setIfInBounds_toArray, List.set_cons_zero, List.set_cons_succ]
            refine anyF_take (i := 23) (v := ?_) rfl (by kernel_rfl) (by kernel_rfl) (by kernel_rfl) (fun _ _ _ h => h) (Or.inl ⟨by rfl, ?_⟩) (by assumption) ?_
            rotate_left
            · intro w hSw
              go_simp
              try with_reducible rfl
            simp only [Act.put, List.getElem_toArray, List.getElem_cons_zero, List.getElem_cons_succ, List.setIfInBounds_toArray, List.set_cons_zero, List.set_cons_succ]
            refine anyF_done (by kernel_rfl) ?_ _
            refine Only.normal ?_
            obtain ⟨wz, hwz⟩ : ∃ q, wy.drew = q := ⟨_, rfl⟩
            rw [hwz]
            have hbz : Below wy.heap.size wy wz := by rw [← hwz]; exact below_drew (Below.refl _ wy)
            have HFIN : Aside0 (J Y wz ∧ KT wy wz) := ⟨by rw [← hwz]; exact HJ.out Y wy _ none HJY.out ⟨rfl, rfl, rfl, Nat.le_refl _, fun _ _ _ => rfl⟩ (fun r e => by cases e), KT.of_below hbz⟩
            clear hwz hbz hHeld cp x0 q0 q1
            gi_wp2
            gi_roundg gn
            case measure => exact Nat.lt_succ_self _
            case rel => exact ⟨k + 1, Z0, Z1, Y, by simp, ⟨by have := HK.out; omega⟩, ⟨HFIN.out.2 _ _ _ (.inl rfl) HOY.out⟩, ⟨HFIN.out.1⟩, HYN, ⟨HKY.out.trans HFIN.out.2⟩, ⟨by have := HZB.out; omega⟩⟩
          · have ba : (e'.a == e.a) = false := beq_eq_false_iff_ne.mpr hea
            have bb : (e'.a != e.a) = true := by simp [bne, ba]
            have hyl := HYL.out
            rw [yl_next HEK.out HE'.out hea, HBU.out] at hyl
            have HPRE : Aside0 (Y ++ [⟨e.a, Z0, Z1⟩] <+: yl E (0, 0)) := ⟨by rw [← hyl]; exact ⟨yl (E.drop (k + 1)) (Z0, Z1), by simp⟩⟩
            have HYN : Aside0 (Y ++ [⟨e.a, Z0, Z1⟩] ++ yl (E.drop (k + 1)) (Z0, Z1) = yl E (0, 0)) := ⟨by simpa using hyl⟩
            clear hyl hea HYL
            refine region_F (S := (fun w' => w'.cell? ⟨p, 0, none⟩ = some (.slice (some ⟨g, 0, none⟩) N c) ∧ w'.cell? ⟨bx, 0, none⟩ = some (.int .i64 e.a) ∧ w'.cell? ⟨b3, 0, none⟩ = some (.int .i64 Z0) ∧ w'.cell? ⟨b3, 1, none⟩ = some (.int .i64 Z1) ∧ w'.cell? ⟨g, (k + 1) * 3, none⟩ = some (.int .i64 e'.a))) (by kernel_rfl) ?_ (fun hHeld => ?_)
            · exact ⟨cp, x0, q0, q1, ce⟩
            refine anyF_take (i := 0) (v := ?_) rfl (by kernel_rfl) (by kernel_rfl) (by kernel_rfl) (fun _ _ _ h => h) (Or.inl ⟨by rfl, ?_⟩) (by assumption) ?_
            rotate_left
            · intro w hSw
              go_simp
              try with_reducible rfl
            simp only [Act.put, List.getElem_toArray, List.getElem_cons_zero, List.getElem_cons_succ, List.setIfInBounds_toArray, List.set_cons_zero, List.set_cons_succ]
            refine anyF_take (i := 1) (v := ?_) rfl (by kernel_rfl) (by kernel_rfl) (by kernel_rfl) (fun _ _ _ h => h) (Or.inl ⟨by rfl, ?_⟩) (by assumption) ?_
            rotate_left
            · intro w hSw
              go_simp
              try with_reducible rfl
            simp only [Act.put, List.getElem_toArray, List.getElem_cons_zero, List.getElem_cons_succ, List.setIfInBounds_toArray, List.set_cons_zero, List.set_cons_succ]
            refine anyF_take (i := 2) (v := ?_) rfl (by kernel_rfl) (by kernel_rfl) (by kernel_rfl) (fun _ _ _ h => h) (Or.inl ⟨by rfl, ?_⟩) (by assumption) ?_
            rotate_left
            · intro w hSw
              go_simp
              try with_reducible rfl
            simp only [Act.put, List.getElem_toArray, List.getElem_cons_zero, List.getElem_cons_succ, List.setIfInBounds_toArray, List.set_cons_zero, List.set_cons_succ]
            refine anyF_take (i := 3) (v := ?_) rfl (by kernel_rfl) (by kernel_rfl) (by kernel_rfl) (fun _ _ _ h => h) (Or.inl ⟨by rfl, ?_⟩) (by assumption) ?_
            rotate_left
            · intro w hSw
              go_simp
              try with_reducible rfl
            simp only [Act.put, List.getElem_toArray, List.getElem_cons_zero, List.getElem_cons_succ, List.setIfInBounds_toArray, List.set_cons_zero, List.set_cons_succ]
            refine anyF_take (i := 4) (v := ?_) rfl (by kernel_rfl) (by kernel_rfl) (by kernel_rfl) (fun _ _ _ h => h) (Or.inl ⟨by rfl, ?_⟩) (by assumption) ?_
            rotate_left
            · intro w hSw
              go_simp
              try with_reducible rfl
            simp only [Act.put, List.getElem_toArray, List.getElem_cons_zero, List.getElem_cons_succ, List.setIfInBounds_toArray, List.set_cons_zero, List.set_cons_succ]
            refine anyF_take (i := 5) (v := ?_) rfl (by kernel_rfl) (by kernel_rfl) (by kernel_rfl) (fun _ _ _ h => h) (Or.inl ⟨by rfl, ?_⟩) (by assumption) ?_
            rotate_left
            · intro w hSw
              go_simp
              try with_reducible rfl
            simp only [Act.put, List.getElem_toArray, List.getElem_cons_zero, List.getElem_cons_succ, List.setIfInBounds_toArray, List.set_cons_zero, List.set_cons_succ]
            refine anyF_take (i := 6) (v := ?_) rfl (by kernel_rfl) (by kernel_rfl) (by kernel_rfl) (fun _ _ _ h => h) (Or.inl ⟨by rfl, ?_⟩) (by assumption) ?_
            rotate_left
            · intro w hSw
              go_simp
              try with_reducible rfl
            simp only [Act.put, List.getElem_toArray, List.getElem_cons_zero, List.getElem_cons_succ, List.setIfInBounds_toArray, List.set_cons_zero, List.set_cons_succ]
            refine anyF_take (i := 7) (v := ?_) rfl (by kernel_rfl) (by kernel_rfl) (by kernel_rfl) (fun _ _ _ h => h) (Or.inl ⟨by rfl, ?_⟩) (by assumption) ?_
            rotate_left
            · intro w hSw
              go_simp
              try with_reducible rfl
            simp only [Act.put, List.getElem_toArray, List.getElem_cons_zero, List.getElem_cons_succ, List.setIfInBounds_toArray, List.set_cons_zero, List.set_cons_succ]
            refine anyF_take (i := 8) (v := ?_) rfl (by kernel_rfl) (by kernel_rfl) (by kernel_rfl) (fun _ _ _ h => h) (Or.inl ⟨by rfl, ?_⟩) (by assumption) ?_
            rotate_left
            · intro w hSw
              go_simp
              try with_reducible rfl
            simp only [Act.put, List.getElem_toArray, List.getElem_cons_zero, List.getElem_cons_succ, List.setIfInBounds_toArray, List.set_cons_zero, List.set_cons_succ]
            refine anyF_take (i := 9) (v := ?_) rfl (by kernel_rfl) (by kernel_rfl) (by kernel_rfl) (fun _ _ _ h => h) (Or.inl ⟨by rfl, ?_⟩) (by assumption) ?_
            rotate_left
            · intro w hSw
              go_simp
              try with_reducible rfl
            simp only [Act.put, List.getElem_toArray, List.getElem_cons_zero, List.getElem_cons_succ, List.setIfInBounds_toArray, List.set_cons_zero, List.set_cons_succ]
            refine anyF_take (i := 10) (v := ?_) rfl (by kernel_rfl) (by kernel_rfl) (by kernel_rfl) (fun _ _ _ h => h) (Or.inl ⟨by rfl, ?_⟩) (by assumption) ?_
            rotate_left
            · intro w hSw
              go_simp
              try with_reducible rfl
            simp only [Act.put, List.getElem_toArray, List.getElem_cons_zero, List.getElem_cons_succ, List.setIfInBounds_toArray, List.set_cons_zero, List.set_cons_succ]
            refine anyF_take (i := 11) (v := ?_) rfl (by kernel_rfl) (by kernel_rfl) (by kernel_rfl) (fun _ _ _ h => h) (Or.inl ⟨by rfl, ?_⟩) (by assumption) ?_
            rotate_left
            · intro w hSw
              go_simp
              try with_reducible rfl
            simp only [Act.put, List.getElem_toArray, List.getElem_cons_zero, List.getElem_cons_succ, List.setIfInBounds_toArray, List.set_cons_zero, List.set_cons_succ]
            refine anyF_take (i := 12) (v := ?_) rfl (by kernel_rfl) (by kernel_rfl) (by kernel_rfl) (fun _ _ _ h => h) (Or.inl ⟨by rfl, ?_⟩) (by assumption) ?_
            rotate_left
            · intro w hSw
              go_simp
              try with_reducible rfl
            simp only [Act.put, List.getElem_toArray, List.getElem_cons_zero, List.getElem_cons_succ, List.setIfInBounds_toArray, List.set_cons_zero, List.set_cons_succ]
            refine anyF_take (i := 13) (v := ?_) rfl (by kernel_rfl) (by kernel_rfl) (by kernel_rfl) (fun _ _ _ h => h) (Or.inl ⟨by rfl, ?_⟩) (by assumption) ?_
            rotate_left
            · intro w hSw
              go_simp
              try with_reducible rfl
            simp only [Act.put, List.getElem_toArray, List.getElem_cons_zero, List.getElem_cons_succ, List.setIfInBounds_toArray, List.set_cons_zero, List.set_cons_succ]
            refine anyF_take (i := 14) (v := ?_) rfl (by kernel_rfl) (by kernel_rfl) (by kernel_rfl) (fun _ _ _ h => h) (Or.inl ⟨by rfl, ?_⟩) (by assumption) ?_
            rotate_left
            · intro w hSw
              go_simp
              try with_reducible rfl
            simp only [Act.put, List.getElem_toArray, List.getElem_cons_zero, List.getElem_cons_succ, List.setIfInBounds_toArray, List.set_cons_zero, List.set_cons_succ]
            refine anyF_take (i := 15) (v := ?_) rfl (by kernel_rfl) (by kernel_rfl) (by kernel_rfl) (fun _ _ _ h => h) (Or.inl ⟨by rfl, ?_⟩) (by assumption) ?_
            rotate_left
            · intro w hSw
              go_simp
              try with_reducible rfl
            simp only [Act.put, List.getElem_toArray, List.getElem_cons_zero, List.getElem_cons_succ, List.setIfInBounds_toArray, List.set_cons_zero, List.set_cons_succ]
            refine anyF_take (i := 16) (v := ?_) rfl (by kernel_rfl) (by kernel_rfl) (by kernel_rfl) (fun _ _ _ h => h) (Or.inl ⟨by rfl, ?_⟩) (by assumption) ?_
            rotate_left
            · intro w hSw
              go_simp
              try with_reducible rfl
            simp only [Act.put, List.getElem_toArray, List.getElem_cons_zero, List.getElem_cons_succ, List.setIfInBounds_toArray, List.set_cons_zero, List.set_cons_succ]
            refine anyF_take (i := 17) (v := ?_) rfl (by kernel_rfl) (by kernel_rfl) (by kernel_rfl) (fun _ _ _ h => h) (Or.inl ⟨by rfl, ?_⟩) (by assumption) ?_
            rotate_left
            · intro w hSw
              go_simp
              try with_reducible rfl
            simp only [Act.put, List.getElem_toArray, List.getElem_cons_zero, List.getElem_cons_succ, List.setIfInBounds_toArray, List.set_cons_zero, List.set_cons_succ]
            refine anyF_take (i := 18) (v := ?_) rfl (by kernel_rfl) (by kernel_rfl) (by kernel_rfl) (fun _ _ _ h => h) (Or.inl ⟨by rfl, ?_⟩) (by assumption) ?_
            rotate_left
            · intro w hSw
              go_simp
              try with_reducible rfl
            simp only [Act.put, List.getElem_toArray, List.getElem_cons_zero, List.getElem_cons_succ, List.setIfInBounds_toArray, List.set_cons_zero, List.set_cons_succ]
            refine anyF_take (i := 19) (v := ?_) rfl (by kernel_rfl) (by kernel_rfl) (by kernel_rfl) (fun _ _ _ h => h) (Or.inl ⟨by rfl, ?_⟩) (by assumption) ?_
            rotate_left
            · intro w hSw
              go_simp
              try with_reducible rfl
            simp only [Act.put, List.getElem_toArray, List.getElem_cons_zero, List.getElem_cons_succ, List.setIfInBounds_toArray, List.set_cons_zero, List.set_cons_succ]
            refine anyF_take (i := 20) (v := ?_) rfl (by kernel_rfl) (by kernel_rfl) (by kernel_rfl) (fun _ _ _ h => h) (Or.inl ⟨by rfl, ?_⟩) (by assumption) ?_
            rotate_left
            · intro w hSw
              go_simp
              try with_reducible rfl
            simp only [Act.put, List.getElem_toArray, List.getElem_cons_zero, List.getElem_cons_succ, List.setIfInBounds_toArray, List.set_cons_zero, List.set_cons_succ]
            obtain ⟨fn, tmps, assign, body, hy, hR⟩ := HY.out Y ⟨e.a, Z0, Z1⟩ wy.drew (HJ.out Y wy _ none HJY.out ⟨rfl, rfl, rfl, Nat.le_refl _, fun _ _ _ => rfl⟩ (fun r e => by cases e)) HPRE.out
            dsimp only [encY] at hy
            refine anyF_one (i := 21) (by kernel_rfl) rfl (fun K' hK => ?_)
            rw [if_pos (by rfl)]
            refine ⟨wide_about, ?_⟩
            rw [show Fence.wide.round = none from rfl, Oper.semAt_none]
            refine upon_round (l := l) (fn := fn) (tmps := tmps) (assign := assign) (body := body) (w := wy.drew) ?_ ?_
            · go_simp
            refine RoundIn.mono hR ?_
            rintro _ w2 ⟨rfl, hJ2, hK2⟩
            have hky : KT wy w2 := (KT.of_below (below_drew (Below.refl _ wy))).trans hK2
            have HJ2 := Aside0.mk hJ2
            have HK2 := Aside0.mk hky
            have cp : w2.cell? ⟨p, 0, none⟩ = some (.slice (some ⟨g, 0, none⟩) N c) := cell_of_row _ _ 0 _ _ _ ((HKY.out.trans hky) _ _ _ (.inr (.inl rfl)) HP.out)
            have x0 : w2.cell? ⟨bx, 0, none⟩ = some (.int .i64 e.a) := cell_of_row _ _ 0 _ _ _ (hky _ _ _ (.inr (.inr rfl)) HXY.out)
            have q0 : w2.cell? ⟨b3, 0, none⟩ = some (.int .i64 Z0) := cell_of_row _ _ 0 _ _ _ (hky _ _ _ (.inl rfl) HOY.out)
            have q1 : w2.cell? ⟨b3, 1, none⟩ = some (.int .i64 Z1) := cell_of_row _ _ 1 _ _ _ (hky _ _ _ (.inl rfl) HOY.out)
            have ce : w2.cell? ⟨g, (k + 1) * 3, none⟩ = some (.int .i64 e'.a) := by
              have h1 := (HRW.out (k + 1) e' HE'.out).1
              rw [cell_of_row _ _ _ _ _ _ HG.out] at h1
              rw [cell_of_row _ _ _ _ _ _ ((HKY.out.trans hky) _ _ _ (.inr (.inr rfl)) HG.out)]
              exact h1
            refine hK _ _ ⟨cp, x0, q0, q1, ce⟩ ?_
            clear hK K' hy hR hJ2 hK2 hky hHeld
            try simp only [Act.put, List.getElem_toArray, List.getElem_cons_zero, List.getElem_cons_succ, List.setIfInBounds_toArray, List.set_cons_zero, List.set_cons_succ]
            have hHeld : (fun w' => w'.cell? ⟨p, 0, none⟩ = some (.slice (some ⟨g, 0, none⟩) N c) ∧ w'.cell? ⟨bx, 0, none⟩ = some (.int .i64 e.a) ∧ w'.cell? ⟨b3, 0, none⟩ = some (.int .i64 Z0) ∧ w'.cell? ⟨b3, 1, none⟩ = some (.int .i64 Z1) ∧ w'.cell? ⟨g, (k + 1) * 3, none⟩ = some (.int .i64 e'.a)) w2 := ⟨cp, x0, q0, q1, ce⟩
            refine anyF_take (i := 22) (v := ?_) rfl (by kernel_rfl) (by kernel_rfl) (by kernel_rfl) (fun _ _ _ h => h) (Or.inl ⟨by rfl, ?_⟩) (by assumption) ?_
            rotate_left
            · intro w hSw
              go_simp
              try with_reducible rfl
            simp only [Act.put, List.getElem_toArray, List.getElem_cons_zero, List.getElem_cons_succ, List.setIfInBounds_toArray, List.set_cons_zero, List.set_cons_succ]
            refine anyF_take (i := 23) (v := ?_) rfl (by kernel_rfl) (by kernel_rfl) (by kernel_rfl) (fun _ _ _ h => h) (Or.inl ⟨by rfl, ?_⟩) (by assumption) ?_
            rotate_left
            · intro w hSw
              go_simp
              try with_reducible rfl
            simp only [Act.put, List.getElem_toArray, List.getElem_cons_zero, List.getElem_cons_succ, List.setIfInBounds_toArray, List.set_cons_zero, List.set_cons_succ]
            refine anyF_done (by kernel_rfl) ?_ _
            refine Only.normal ?_
            clear hHeld cp x0 q0 q1
            gi_wp2
            gi_roundg gn
            case measure => exact Nat.lt_succ_self _
            case rel => exact ⟨k + 1, Z0, Z1, _, by simp, ⟨by have := HK.out; omega⟩, ⟨HK2.out _ _ _ (.inl rfl) HOY.out⟩, HJ2, HYN, ⟨HKY.out.trans HK2.out⟩, ⟨by have := HZB.out; omega⟩⟩
      · rw [hwb] at x1
        refine region_last_wide (S := (fun w' => w'.cell? ⟨bx, 1, none⟩ = some (.int .i64 1) ∧ w'.cell? ⟨bx, 2, none⟩ = some (.int .i64 e.b) ∧ w'.cell? ⟨b3, 1, none⟩ = some (.int .i64 o1))) (ds := [8]) (by kernel_rfl) ?_ (fun hHeld => ?_)
        · exact ⟨x1, x2, q1⟩
        refine wpAnyLast_take (i := 0) (v := ?_) rfl (by kernel_rfl) (by kernel_rfl) (by kernel_rfl) (by kernel_rfl) (by kernel_rfl) (fun _ _ _ h => h) (Or.inl ⟨by rfl, ?_⟩) (by assumption) ?_
        rotate_left
        · intro w hSw
          go_simp
          try with_reducible rfl
        simp only [Act.put, List.getElem_toArray, List.getElem_cons_zero, List.getElem_cons_succ, List.setIfInBounds_toArray, List.set_cons_zero, List.set_cons_succ]
        refine wpAnyLast_take (i := 1) (v := ?_) rfl (by kernel_rfl) (by kernel_rfl) (by kernel_rfl) (by kernel_rfl) (by kernel_rfl) (fun _ _ _ h => h) (Or.inl ⟨by rfl, ?_⟩) (by assumption) ?_
        rotate_left
        · intro w hSw
          go_simp
          try with_reducible rfl
        simp only [Act.put, List.getElem_toArray, List.getElem_cons_zero, List.getElem_cons_succ, List.setIfInBounds_toArray, List.set_cons_zero, List.set_cons_succ]
        refine wpAnyLast_take (i := 2) (v := ?_) rfl (by kernel_rfl) (by kernel_rfl) (by kernel_rfl) (by kernel_rfl) (by kernel_rfl) (fun _ _ _ h => h) (Or.inl ⟨by rfl, ?_⟩) (by assumption) ?_
        rotate_left
        · intro w hSw
          go_simp
          try with_reducible rfl
        simp only [Act.put, List.getElem_toArray, List.getElem_cons_zero, List.getElem_cons_succ, List.setIfInBounds_toArray, List.set_cons_zero, List.set_cons_succ]
        refine wpAnyLast_take (i := 3) (v := ?_) rfl (by kernel_rfl) (by kernel_rfl) (by kernel_rfl) (by kernel_rfl) (by kernel_rfl) (fun _ _ _ h => h) (Or.inl ⟨by rfl, ?_⟩) (by assumption) ?_
        rotate_left
        · intro w hSw
          go_simp
          try with_reducible rfl
        simp only [Act.put, List.getElem_toArray, List.getElem_cons_zero, List.getElem_cons_succ, List.setIfInBounds_toArray, List.set_cons_zero, List.set_cons_succ]
        refine wpAnyLast_take (i := 4) (v := ?_) rfl (by kernel_rfl) (by kernel_rfl) (by kernel_rfl) (by kernel_rfl) (by kernel_rfl) (fun _ _ _ h => h) (Or.inl ⟨by rfl, ?_⟩) (by assumption) ?_
        rotate_left
        · intro w hSw
          go_simp
          try with_reducible rfl
        simp only [Act.put, List.getElem_toArray, List.getElem_cons_zero, List.getElem_cons_succ, List.setIfInBounds_toArray, List.set_cons_zero, List.set_cons_succ]
        refine wpAnyLast_take (i := 5) (v := ?_) rfl (by kernel_rfl) (by kernel_rfl) (by kernel_rfl) (by kernel_rfl) (by kernel_rfl) (fun _ _ _ h => h) (Or.inl ⟨by rfl, ?_⟩) (by assumption) ?_
        rotate_left
        · intro w hSw
          go_simp
          try with_reducible rfl
        simp only [Act.put, List.getElem_toArray, List.getElem_cons_zero, List.getElem_cons_succ, List.setIfInBounds_toArray, List.set_cons_zero, List.set_cons_succ]
        refine wpAnyLast_take (i := 6) (v := ?_) rfl (by kernel_rfl) (by kernel_rfl) (by kernel_rfl) (by kernel_rfl) (by kernel_rfl) (fun _ _ _ h => h) (Or.inl ⟨by rfl, ?_⟩) (by assumption) ?_
        rotate_left
        · intro w hSw
          go_simp
          try with_reducible rfl
        simp only [Act.put, List.getElem_toArray, List.getElem_cons_zero, List.getElem_cons_succ, List.setIfInBounds_toArray, List.set_cons_zero, List.set_cons_succ]
        refine wpAnyLast_take (i := 7) (v := ?_) rfl (by kernel_rfl) (by kernel_rfl) (by kernel_rfl) (by kernel_rfl) (by kernel_rfl) (fun _ _ _ h => h) (Or.inl ⟨by rfl, ?_⟩) (by assumption) ?_
        rotate_left
        · intro w hSw
          go_simp
          try with_reducible rfl
        simp only [Act.put, List.getElem_toArray, List.getElem_cons_zero, List.getElem_cons_succ, List.setIfInBounds_toArray, List.set_cons_zero, List.set_cons_succ]
        refine wpAnyLast_ready (rs := [8]) (by kernel_rfl) (by simp) ?_
        refine AllReadyL.cons_last rfl (by decide) (fun K hK => ?_) AllReadyL.nil
        go_simp
        refine hK.out _ _ ?_
        clear hK K hHeld
        try simp only [Act.put, List.getElem_toArray, List.getElem_cons_zero, List.getElem_cons_succ, List.setIfInBounds_toArray, List.set_cons_zero, List.set_cons_succ]
        refine wpAnyLast_done (by kernel_rfl) ?_ _
        refine Only.normal ?_
        obtain ⟨Z0, hZ0⟩ : ∃ q, o0 = q := ⟨_, rfl⟩
        obtain ⟨Z1, hZ1⟩ : ∃ q, o1 + e.b = q := ⟨_, rfl⟩
        have hbump : bump (o0, o1) e = (Z0, Z1) := by unfold bump; rw [if_neg (by omega)]; rw [← hZ0, ← hZ1]
        have HBU := Aside0.mk hbump
        have HZB : Aside0 (-((k : Int) + 1) ≤ Z0 ∧ Z0 ≤ (k : Int) + 1 ∧ -((k : Int) + 1) ≤ Z1 ∧ Z1 ≤ (k : Int) + 1) := ⟨by omega⟩
        obtain ⟨wy, hwy⟩ : ∃ q, (wx.setCell ⟨b3, 1, none⟩ (.int .i64 (o1 + e.b))).drew = q := ⟨_, rfl⟩
        rw [hwy]
        have HOY : Aside0 (wy.heap[b3]? = some (.cells #[.int .i64 Z0, .int .i64 Z1] 52 (0, 0))) := ⟨by
          rw [← hwy, ← hZ0, ← hZ1]
          exact blk_set HOX.out 1 _⟩
        have HGR : Aside0 (wx.grownBy wy (some b3)) := ⟨by rw [← hwy]; exact set_grown wx b3 1 _⟩
        clear hwy hZ0 hZ1 hbump x1 x2 q0 q1 fq hob hw0 hw1 hwb hbb
        have HJY : Aside0 (J Y wy) := ⟨HJ.out Y wx wy (some b3) HJX.out HGR.out (fun r e => by cases e; exact ⟨by have := HB3.out; omega, _, HOX.out⟩)⟩
        have HKY : Aside0 (KT W wy) := ⟨fun j row t ht hj => by
          have hjl := blk_lt hj
          have h1 := (HKT.out.trans HKX.out) j row t ht hj
          have hne : some j ≠ some b3 := fun e => by
            injection e with e
            have := HB3.out
            omega
          exact (HGR.out.block j (blk_lt h1) hne).trans h1⟩
        have hbx3 : some bx ≠ some b3 := fun e => by
          injection e with e
          have h1 := HX8.out
          rw [e, HOX.out] at h1
          injection h1 with h1
          injection h1 with _ h2
          exact absurd h2 (by decide)
        have HXY := Aside0.mk ((HGR.out.block bx (blk_lt HX8.out) hbx3).trans HX8.out)
        have hgy := HKY.out _ _ _ (.inr (.inr rfl)) HG.out
        have cp : wy.cell? ⟨p, 0, none⟩ = some (.slice (some ⟨g, 0, none⟩) N c) := cell_of_row _ _ 0 _ _ _ (HKY.out _ _ _ (.inr (.inl rfl)) HP.out)
        have x0 : wy.cell? ⟨bx, 0, none⟩ = some (.int .i64 e.a) := cell_of_row _ _ _ _ _ _ HXY.out
        have q0 : wy.cell? ⟨b3, 0, none⟩ = some (.int .i64 Z0) := cell_of_row _ _ _ _ _ _ HOY.out
        have q1 : wy.cell? ⟨b3, 1, none⟩ = some (.int .i64 Z1) := cell_of_row _ _ _ _ _ _ HOY.out
        have HCE : Aside0 (∀ e', E[k + 1]? = some e' → wy.cell? ⟨g, (k + 1) * 3, none⟩ = some (.int .i64 e'.a)) := ⟨fun e' he' => by
          have h1 := (HRW.out (k + 1) e' he').1
          rw [cell_of_row _ _ _ _ _ _ HG.out] at h1
          rw [cell_of_row _ _ _ _ _ _ hgy]
          exact h1⟩
        clear hbx3 hgy HX8 HOX HJX HKX HGR HRD HG' HKT
        gi_upto_region 5 with (fail)
        by_cases hkl : k + 1 = N
        · have bl : ((k : Int) + 1 == (N : Int)) = true := beq_iff_eq.mpr (by omega)
          have hyl := HYL.out
          rw [yl_last HEK.out (by rw [HLN.out]; exact hkl.symm), HBU.out] at hyl
          have HPRE : Aside0 (Y ++ [⟨e.a, Z0, Z1⟩] <+: yl E (0, 0)) := ⟨by rw [← hyl]; exact List.prefix_refl _⟩
          have HYN : Aside0 (Y ++ [⟨e.a, Z0, Z1⟩] ++ yl (E.drop (k + 1)) (Z0, Z1) = yl E (0, 0)) := ⟨by
            rw [List.drop_of_length_le (by rw [HLN.out]; omega)]
            simpa [yl] using hyl⟩
          clear hyl HYL HCE
          refine region_F (S := (fun w' => w'.cell? ⟨p, 0, none⟩ = some (.slice (some ⟨g, 0, none⟩) N c) ∧ w'.cell? ⟨bx, 0, none⟩ = some (.int .i64 e.a) ∧ w'.cell? ⟨b3, 0, none⟩ = some (.int .i64 Z0) ∧ w'.cell? ⟨b3, 1, none⟩ = some (.int .i64 Z1))) (by kernel_rfl) ?_ (fun hHeld => ?_)
          · exact ⟨cp, x0, q0, q1⟩
          refine anyF_take (i := 0) (v := ?_) rfl (by kernel_rfl) (by kernel_rfl) (by kernel_rfl) (fun _ _ _ h => h) (Or.inl ⟨by rfl, ?_⟩) (by assumption) ?_
          rotate_left
          · intro w hSw
            go_simp
            try with_reducible rfl
          simp only [Act.put, List.getElem_toArray, List.getElem_cons_zero, List.getElem_cons_succ, List.setIfInBounds_toArray, List.set_cons_zero, List.set_cons_succ]
          refine anyF_take (i := 1) (v := ?_) rfl (by kernel_rfl) (by kernel_rfl) (by kernel_rfl) (fun _ _ _ h => h) (Or.inl ⟨by rfl, ?_⟩) (by assumption) ?_
          rotate_left
          · intro w hSw
            go_simp
            try with_reducible rfl
          simp only [Act.put, List.getElem_toArray, List.getElem_cons_zero, List.getElem_cons_succ, List.setIfInBounds_toArray, List.set_cons_zero, List.set_cons_succ]
          refine anyF_take (i := 2) (v := ?_) rfl (by kernel_rfl) (by kernel_rfl) (by kernel_rfl) (fun _ _ _ h => h) (Or.inl ⟨by rfl, ?_⟩) (by assumption) ?_
          rotate_left
          · intro w hSw
            go_simp
            try with_reducible rfl
          simp only [Act.put, List.getElem_toArray, List.getElem_cons_zero, List.getElem_cons_succ, List.setIfInBounds_toArray, List.set_cons_zero, List.set_cons_succ]
          refine anyF_take (i := 3) (v := ?_) rfl (by kernel_rfl) (by kernel_rfl) (by kernel_rfl) (fun _ _ _ h => h) (Or.inl ⟨by rfl, ?_⟩) (by assumption) ?_
          rotate_left
          · intro w hSw
            go_simp
            try with_reducible rfl
          simp only [Act.put, List.getElem_toArray, List.getElem_cons_zero, List.getElem_cons_succ, List.setIfInBounds_toArray, List.set_cons_zero, List.set_cons_succ]
          refine anyF_take (i := 4) (v := ?_) rfl (by kernel_rfl) (by kernel_rfl) (by kernel_rfl) (fun _ _ _ h => h) (Or.inl ⟨by rfl, ?_⟩) (by assumption) ?_
          rotate_left
          · intro w hSw
            go_simp
            try with_reducible rfl
          simp only [Act.put, List.getElem_toArray, List.getElem_cons_zero, List.getElem_cons_succ, List.setIfInBounds_toArray, List.set_cons_zero, List.set_cons_succ]
          refine anyF_take (i := 5) (v := ?_) rfl (by kernel_rfl) (by kernel_rfl) (by kernel_rfl) (fun _ _ _ h => h) (Or.inl ⟨by rfl, ?_⟩) (by assumption) ?_
          rotate_left
          · intro w hSw
            go_simp
            try with_reducible rfl
          simp only [Act.put, List.getElem_toArray, List.getElem_cons_zero, List.getElem_cons_succ, List.setIfInBounds_toArray, List.set_cons_zero, List.set_cons_succ]
          refine anyF_take (i := 6) (v := undef) rfl (by kernel_rfl) (by kernel_rfl) (by kernel_rfl) (fun _ _ _ h => h) (Or.inr ⟨by rfl, rfl⟩) (by assumption) ?_
          simp only [Act.put, List.getElem_toArray, List.getElem_cons_zero, List.getElem_cons_succ, List.setIfInBounds_toArray, List.set_cons_zero, List.set_cons_succ]
          refine anyF_take (i := 7) (v := undef) rfl (by kernel_rfl) (by kernel_rfl) (by kernel_rfl) (fun _ _ _ h => h) (Or.inr ⟨by rfl, rfl⟩) (by assumption) ?_
          simp only [Act.put, List.getElem_toArray, List.getElem_cons_zero, List.getElem_cons_succ, List.setIfInBounds_toArray, List.set_cons_zero, List.set_cons_succ]
          refine anyF_take (i := 8) (v := undef) rfl (by kernel_rfl) (by kernel_rfl) (by kernel_rfl) (fun _ _ _ h => h) (Or.inr ⟨by rfl, rfl⟩) (by assumption) ?_
          simp only [Act.put, List.getElem_toArray, List.getElem_cons_zero, List.getElem_cons_succ, List.setIfInBounds_toArray, List.set_cons_zero, List.set_cons_succ]
          refine anyF_take (i := 9) (v := undef) rfl (by kernel_rfl) (by kernel_rfl) (by kernel_rfl) (fun _ _ _ h => h) (Or.inr ⟨by rfl, rfl⟩) (by assumption) ?_
          simp only [Act.put, List.getElem_toArray, List.getElem_cons_zero, List.getElem_cons_succ, List.setIfInBounds_toArray, List.set_cons_zero, List.set_cons_succ]
          refine anyF_take (i := 10) (v := undef) rfl (by kernel_rfl) (by kernel_rfl) (by kernel_rfl) (fun _ _ _ h => h) (Or.inr ⟨by rfl, rfl⟩) (by assumption) ?_
          simp only [Act.put, List.getElem_toArray, List.getElem_cons_zero, List.getElem_cons_succ, List.setIfInBounds_toArray, List.set_cons_zero, List.set_cons_succ]
          refine anyF_take (i := 11) (v := undef) rfl (by kernel_rfl) (by kernel_rfl) (by kernel_rfl) (fun _ _ _ h => h) (Or.inr ⟨by rfl, rfl⟩) (by assumption) ?_
          simp only [Act.put, List.getElem_toArray, List.getElem_cons_zero, List.getElem_cons_succ, List.setIfInBounds_toArray, List.set_cons_zero, List.set_cons_succ]
          refine anyF_take (i := 12) (v := undef) rfl (by kernel_rfl) (by kernel_rfl) (by kernel_rfl) (fun _ _ _ h => h) (Or.inr ⟨by rfl, rfl⟩) (by assumption) ?_
          simp only [Act.put, List.getElem_toArray, List.getElem_cons_zero, List.getElem_cons_succ, List.setIfInBounds_toArray, List.set_cons_zero, List.set_cons_succ]
          refine anyF_take (i := 13) (v := undef) rfl (by kernel_rfl) (by kernel_rfl) (by kernel_rfl) (fun _ _ _ h => h) (Or.inr ⟨by rfl, rfl⟩) (by assumption) ?_
          simp only [Act.put, List.getElem_toArray, List.getElem_cons_zero, List.getElem_cons_succ, List.setIfInBounds_toArray, List.set_cons_zero, List.set_cons_succ]
          refine anyF_take (i := 14) (v := undef) rfl (by kernel_rfl) (by kernel_rfl) (by kernel_rfl) (fun _ _ _ h => h) (Or.inr ⟨by rfl, rfl⟩) (by assumption) ?_
          simp only [Act.put, List.getElem_toArray, List.getElem_cons_zero, List.getElem_cons_succ, List.setIfInBounds_toArray, List.set_cons_zero, List.set_cons_succ]
          refine anyF_take (i := 15) (v := ?_) rfl (by kernel_rfl) (by kernel_rfl) (by kernel_rfl) (fun _ _ _ h => h) (Or.inl ⟨by rfl, ?_⟩) (by assumption) ?_
          rotate_left
          · intro w hSw
            go_simp
            try with_reducible rfl
          simp only [Act.put, List.getElem_toArray, List.getElem_cons_zero, List.getElem_cons_succ, List.setIfInBounds_toArray, List.set_cons_zero, List.set_cons_succ]
          refine anyF_take (i := 16) (v := ?_) rfl (by kernel_rfl) (by kernel_rfl) (by kernel_rfl) (fun _ _ _ h => h) (Or.inl ⟨by rfl, ?_⟩) (by assumption) ?_
          rotate_left
          · intro w hSw
            go_simp
            try with_reducible rfl
          simp only [Act.put, List.getElem_toArray, List.getElem_cons_zero, List.getElem_cons_succ, List.setIfInBounds_toArray, List.set_cons_zero, List.set_cons_succ]
          refine anyF_take (i := 17) (v := ?_) rfl (by kernel_rfl) (by kernel_rfl) (by kernel_rfl) (fun _ _ _ h => h) (Or.inl ⟨by rfl, ?_⟩) (by assumption) ?_
          rotate_left
          · intro w hSw
            go_simp
            try with_reducible rfl
          simp only [Act.put, List.getElem_toArray, List.getElem_cons_zero, List.getElem_cons_succ, List.setIfInBounds_toArray, List.set_cons_zero, List.set_cons_succ]
          refine anyF_take (i := 18) (v := ?_) rfl (by kernel_rfl) (by kernel_rfl) (by kernel_rfl) (fun _ _ _ h => h) (Or.inl ⟨by rfl, ?_⟩) (by assumption) ?_
          rotate_left
          · intro w hSw
            go_simp
            try with_reducible rfl
          simp only [Act.put, List.getElem_toArray, List.getElem_cons_zero, List.getElem_cons_succ, List.setIfInBounds_toArray, List.set_cons_zero, List.set_cons_succ]
          refine anyF_take (i := 19) (v := ?_) rfl (by kernel_rfl) (by kernel_rfl) (by kernel_rfl) (fun _ _ _ h => h) (Or.inl ⟨by rfl, ?_⟩) (by assumption) ?_
          rotate_left
          · intro w hSw
            go_simp
            try with_reducible rfl
          simp only [Act.put, List.getElem_toArray, List.getElem_cons_zero, List.getElem_cons_succ, List.setIfInBounds_toArray, List.set_cons_zero, List.set_cons_succ]
          refine anyF_take (i := 20) (v := ?_) rfl (by kernel_rfl) (by kernel_rfl) (by kernel_rfl) (fun _ _ _ h => h) (Or.inl ⟨by rfl, ?_⟩) (by assumption) ?_
          rotate_left
          · intro w hSw
            go_simp
            try with_reducible rfl
          simp only [Act.put, List.getElem_toArray, List.getElem_cons_zero, List.getElem_cons_succ, List.setIfInBounds_toArray, List.set_cons_zero, List.set_cons_succ]
          obtain ⟨fn, tmps, assign, body, hy, hR⟩ := HY.out Y ⟨e.a, Z0, Z1⟩ wy.drew (HJ.out Y wy _ none HJY.out ⟨rfl, rfl, rfl, Nat.le_refl _, fun _ _ _ => rfl⟩ (fun r e => by cases e)) HPRE.out
          dsimp only [encY] at hy
          refine anyF_one (i := 21) (by kernel_rfl) rfl (fun K' hK => ?_)
          rw [if_pos (by rfl)]
          refine ⟨wide_about, ?_⟩
          rw [show Fence.wide.round = none from rfl, Oper.semAt_none]
          refine upon_round (l := l) (fn := fn) (tmps := tmps) (assign := assign) (body := body) (w := wy.drew) ?_ ?_
          · go_simp
          refine RoundIn.mono hR ?_
          rintro _ w2 ⟨rfl, hJ2, hK2⟩
          have hky : KT wy w2 := (KT.of_below (below_drew (Below.refl _ wy))).trans hK2
          have HJ2 := Aside0.mk hJ2
          have HK2 := Aside0.mk hky
          have cp : w2.cell? ⟨p, 0, none⟩ = some (.slice (some ⟨g, 0, none⟩) N c) := cell_of_row _ _ 0 _ _ _ ((HKY.out.trans hky) _ _ _ (.inr (.inl rfl)) HP.out)
          have x0 : w2.cell? ⟨bx, 0, none⟩ = some (.int .i64 e.a) := cell_of_row _ _ 0 _ _ _ (hky _ _ _ (.inr (.inr rfl)) HXY.out)
          have q0 : w2.cell? ⟨b3, 0, none⟩ = some (.int .i64 Z0) := cell_of_row _ _ 0 _ _ _ (hky _ _ _ (.inl rfl) HOY.out)
          have q1 : w2.cell? ⟨b3, 1, none⟩ = some (.int .i64 Z1) := cell_of_row _ _ 1 _ _ _ (hky _ _ _ (.inl rfl) HOY.out)
          refine hK _ _ ⟨cp, x0, q0, q1⟩ ?_
          clear hK K' hy hR hJ2 hK2 hky hHeld
          try simp only [Act.put, List.getElem_toArray, List.getElem_cons_zero, List.getElem_cons_succ, List.setIfInBounds_toArray, List.set_cons_zero, List.set_cons_succ]
          have hHeld : (fun w' => w'.cell? ⟨p, 0, none⟩ = some (.slice (some ⟨g, 0, none⟩) N c) ∧ w'.cell? ⟨bx, 0, none⟩ = some (.int .i64 e.a) ∧ w'.cell? ⟨b3, 0, none⟩ = some (.int .i64 Z0) ∧ w'.cell? ⟨b3, 1, none⟩ = some (.int .i64 Z1)) w2 := ⟨cp, x0, q0, q1⟩
          refine anyF_take (i := 22) (v := ?_) rfl (by kernel_rfl) (by kernel_rfl) (by kernel_rfl) (fun _ _ _ h => h) (Or.inl ⟨by rfl, ?_⟩) (by assumption) ?_
          rotate_left
          · intro w hSw
            go_simp
            try with_reducible rfl
          simp only [Act.put, List.getElem_toArray, List.getElem_cons_zero, List.getElem_cons_succ, List.setIfInBounds_toArray, List.set_cons_zero, List.set_cons_succ]
          refine anyF_take (i := 23) (v := ?_) rfl (by kernel_rfl) (by kernel_rfl) (by kernel_rfl) (fun _ _ _ h => h) (Or.inl ⟨by rfl, ?_⟩) (by assumption) ?_
          rotate_left
          · intro w hSw
            go_simp
            try with_reducible rfl
          simp only [Act.put, List.getElem_toArray, List.getElem_cons_zero, List.getElem_cons_succ, List.setIfInBounds_toArray, List.set_cons_zero, List.set_cons_succ]
          refine anyF_done (by kernel_rfl) ?_ _
          refine Only.normal ?_
          clear hHeld cp x0 q0 q1
          gi_wp2
          gi_roundg gn
          case measure => exact Nat.lt_succ_self _
          case rel => exact ⟨k + 1, Z0, Z1, _, by simp, ⟨by have := HK.out; omega⟩, ⟨HK2.out _ _ _ (.inl rfl) HOY.out⟩, HJ2, HYN, ⟨HKY.out.trans HK2.out⟩, ⟨by have := HZB.out; omega⟩⟩
        · obtain ⟨e', he'⟩ : ∃ e', E[k + 1]? = some e' := ⟨_, List.getElem?_eq_getElem (by rw [HLN.out]; omega)⟩
          have bl : ((k : Int) + 1 == (N : Int)) = false := beq_eq_false_iff_ne.mpr (by omega)
          have ce := HCE.out e' he'
          have r0 : (0 : Int) ≤ (k : Int) + 1 := by omega
          have r1 : (k : Int) + 1 < (N : Int) := by omega
          have r2 : ((k : Int) + 1).toNat = k + 1 := by omega
          have HE' := Aside0.mk he'
          clear he' HCE
          by_cases hea : e'.a = e.a
          · have ba : (e'.a == e.a) = true := beq_iff_eq.mpr hea
            have hyl := HYL.out
            rw [yl_same HEK.out HE'.out hea, HBU.out] at hyl
            have HYN := Aside0.mk hyl
            rw [hea] at ce
            clear hyl hea HYL
            refine region_F (S := (fun w' => w'.cell? ⟨p, 0, none⟩ = some (.slice (some ⟨g, 0, none⟩) N c) ∧ w'.cell? ⟨bx, 0, none⟩ = some (.int .i64 e.a) ∧ w'.cell? ⟨b3, 0, none⟩ = some (.int .i64 Z0) ∧ w'.cell? ⟨b3, 1, none⟩ = some (.int .i64 Z1) ∧ w'.cell? ⟨g, (k + 1) * 3, none⟩ = some (.int .i64 e.a))) (by kernel_rfl) ?_ (fun hHeld => ?_)
            · exact ⟨cp, x0, q0, q1, ce⟩
            refine anyF_take (i := 0) (v := ?_) rfl (by kernel_rfl) (by kernel_rfl) (by kernel_rfl) (fun _ _ _ h => h) (Or.inl ⟨by rfl, ?_⟩) (by assumption) ?_
            rotate_left
            · intro w hSw
              go_simp
              try with_reducible rfl
            simp only [Act.put, List.getElem_toArray, List.getElem_cons_zero, List.getElem_cons_succ, List.setIfInBounds_toArray, List.set_cons_zero, List.set_cons_succ]
            refine anyF_take (i := 1) (v := ?_) rfl (by kernel_rfl) (by kernel_rfl) (by kernel_rfl) (fun _ _ _ h => h) (Or.inl ⟨by rfl, ?_⟩) (by assumption) ?_
            rotate_left
            · intro w hSw
              go_simp
              try with_reducible rfl
            simp only [Act.put, List.getElem_toArray, List.getElem_cons_zero, List.getElem_cons_succ, List.setIfInBounds_toArray, List.set_cons_zero, List.set_cons_succ]
            refine anyF_take (i := 2) (v := ?_) rfl (by kernel_rfl) (by kernel_rfl) (by kernel_rfl) (fun _ _ _ h => h) (Or.inl ⟨by rfl, ?_⟩) (by assumption) ?_
            rotate_left
            · intro w hSw
              go_simp
              try with_reducible rfl
            simp only [Act.put, List.getElem_toArray, List.getElem_cons_zero, List.getElem_cons_succ, List.setIfInBounds_toArray, List.set_cons_zero, List.set_cons_succ]
            refine anyF_take (i := 3) (v := ?_) rfl (by kernel_rfl) (by kernel_rfl) (by kernel_rfl) (fun _ _ _ h => h) (Or.inl ⟨by rfl, ?_⟩) (by assumption) ?_
            rotate_left
            · intro w hSw
              go_simp
              try with_reducible rfl
            simp only [Act.put, List.getElem_toArray, List.getElem_cons_zero, List.getElem_cons_succ, List.setIfInBounds_toArray, List.set_cons_zero, List.set_cons_succ]
            refine anyF_take (i := 4) (v := ?_) rfl (by kernel_rfl) (by kernel_rfl) (by kernel_rfl) (fun _ _ _ h => h) (Or.inl ⟨by rfl, ?_⟩) (by assumption) ?_
            rotate_left
            · intro w hSw
              go_simp
              try with_reducible rfl
            simp only [Act.put, List.getElem_toArray, List.getElem_cons_zero, List.getElem_cons_succ, List.setIfInBounds_toArray, List.set_cons_zero, List.set_cons_succ]
            refine anyF_take (i := 5) (v := ?_) rfl (by kernel_rfl) (by kernel_rfl) (by kernel_rfl) (fun _ _ _ h => h) (Or.inl ⟨by rfl, ?_⟩) (by assumption) ?_
            rotate_left
            · intro w hSw
              go_simp
              try with_reducible rfl
            simp only [Act.put, List.getElem_toArray, List.getElem_cons_zero, List.getElem_cons_succ, List.setIfInBounds_toArray, List.set_cons_zero, List.set_cons_succ]
            refine anyF_take (i := 6) (v := ?_) rfl (by kernel_rfl) (by kernel_rfl) (by kernel_rfl) (fun _ _ _ h => h) (Or.inl ⟨by rfl, ?_⟩) (by assumption) ?_
            rotate_left
            · intro w hSw
              go_simp
              try with_reducible rfl
            simp only [Act.put, List.getElem_toArray, List.getElem_cons_zero, List.getElem_cons_succ, List.setIfInBounds_toArray, List.set_cons_zero, List.set_cons_succ]
            refine anyF_take (i := 7) (v := ?_) rfl (by kernel_rfl) (by kernel_rfl) (by kernel_rfl) (fun _ _ _ h => h) (Or.inl ⟨by rfl, ?_⟩) (by assumption) ?_
            rotate_left
            · intro w hSw
              go_simp
              try with_reducible rfl
            simp only [Act.put, List.getElem_toArray, List.getElem_cons_zero, List.getElem_cons_succ, List.setIfInBounds_toArray, List.set_cons_zero, List.set_cons_succ]
            refine anyF_take (i := 8) (v := ?_) rfl (by kernel_rfl) (by kernel_rfl) (by kernel_rfl) (fun _ _ _ h => h) (Or.inl ⟨by rfl, ?_⟩) (by assumption) ?_
            rotate_left
            · intro w hSw
              go_simp
              try with_reducible rfl
            simp only [Act.put, List.getElem_toArray, List.getElem_cons_zero, List.getElem_cons_succ, List.setIfInBounds_toArray, List.set_cons_zero, List.set_cons_succ]
            refine anyF_take (i := 9) (v := ?_) rfl (by kernel_rfl) (by kernel_rfl) (by kernel_rfl) (fun _ _ _ h => h) (Or.inl ⟨by rfl, ?_⟩) (by assumption) ?_
            rotate_left
            · intro w hSw
              go_simp
              try with_reducible rfl
            simp only [Act.put, List.getElem_toArray, List.getElem_cons_zero, List.getElem_cons_succ, List.setIfInBounds_toArray, List.set_cons_zero, List.set_cons_succ]
            refine anyF_take (i := 10) (v := ?_) rfl (by kernel_rfl) (by kernel_rfl) (by kernel_rfl) (fun _ _ _ h => h) (Or.inl ⟨by rfl, ?_⟩) (by assumption) ?_
            rotate_left
            · intro w hSw
              go_simp
              try with_reducible rfl
            simp only [Act.put, List.getElem_toArray, List.getElem_cons_zero, List.getElem_cons_succ, List.setIfInBounds_toArray, List.set_cons_zero, List.set_cons_succ]
            refine anyF_take (i := 11) (v := ?_) rfl (by kernel_rfl) (by kernel_rfl) (by kernel_rfl) (fun _ _ _ h => h) (Or.inl ⟨by rfl, ?_⟩) (by assumption) ?_
            rotate_left
            · intro w hSw
              go_simp
              try with_reducible rfl
            simp only [Act.put, List.getElem_toArray, List.getElem_cons_zero, List.getElem_cons_succ, List.setIfInBounds_toArray, List.set_cons_zero, List.set_cons_succ]
            refine anyF_take (i := 12) (v := ?_) rfl (by kernel_rfl) (by kernel_rfl) (by kernel_rfl) (fun _ _ _ h => h) (Or.inl ⟨by rfl, ?_⟩) (by assumption) ?_
            rotate_left
            · intro w hSw
              go_simp
              try with_reducible rfl
            simp only [Act.put, List.getElem_toArray, List.getElem_cons_zero, List.getElem_cons_succ, List.setIfInBounds_toArray, List.set_cons_zero, List.set_cons_succ]
            refine anyF_take (i := 13) (v := ?_) rfl (by kernel_rfl) (by kernel_rfl) (by kernel_rfl) (fun _ _ _ h => h) (Or.inl ⟨by rfl, ?_⟩) (by assumption) ?_
            rotate_left
            · intro w hSw
              go_simp
              try with_reducible rfl
            simp only [Act.put, List.getElem_toArray, List.getElem_cons_zero, List.getElem_cons_succ, List.setIfInBounds_toArray, List.set_cons_zero, List.set_cons_succ]
            refine anyF_take (i := 14) (v := ?_) rfl (by kernel_rfl) (by kernel_rfl) (by kernel_rfl) (fun _ _ _ h => h) (Or.inl ⟨by rfl, ?_⟩) (by assumption) ?_
            rotate_left
            · intro w hSw
              go_simp
              try with_reducible rfl
            simp only [Act.put, List.getElem_toArray, List.getElem_cons_zero, List.getElem_cons_succ, List.setIfInBounds_toArray, List.set_cons_zero, List.set_cons_succ]
            refine anyF_take (i := 15) (v := ?_) rfl (by kernel_rfl) (by kernel_rfl) (by kernel_rfl) (fun _ _ _ h => h) (Or.inl ⟨by rfl, ?_⟩) (by assumption) ?_
            rotate_left
            · intro w hSw
              go_simp
              try with_reducible rfl
            simp only [Act.put, List.getElem_toArray, List.getElem_cons_zero, List.getElem_cons_succ, List.setIfInBounds_toArray, List.set_cons_zero, List.set_cons_succ]
            refine anyF_take (i := 16) (v := ?_) rfl (by kernel_rfl) (by kernel_rfl) (by kernel_rfl) (fun _ _ _ h => h) (Or.inl ⟨by rfl, ?_⟩) (by assumption) ?_
            rotate_left
            · intro w hSw
              go_simp
              try with_reducible rfl
            simp only [Act.put, List.getElem_toArray, List.getElem_cons_zero, List.getElem_cons_succ, List.setIfInBounds_toArray, List.set_cons_zero, List.set_cons_succ]
            refine anyF_take (i := 17) (v := undef) rfl (by kernel_rfl) (by kernel_rfl) (by kernel_rfl) (fun _ _ _ h => h) (Or.inr ⟨by rfl, rfl⟩) (by assumption) ?_
            simp only [Act.put, List.getElem_toArray, List.getElem_cons_zero, List.getElem_cons_succ, List.setIfInBounds_toArray, List.set_cons_zero, List.set_cons_succ]
            refine anyF_take (i := 18) (v := undef) rfl (by kernel_rfl) (by kernel_rfl) (by kernel_rfl) (fun _ _ _ h => h) (Or.inr ⟨by rfl, rfl⟩) (by assumption) ?_
            simp only [Act.put, List.getElem_toArray, List.getElem_cons_zero, List.getElem_cons_succ, List.setIfInBounds_toArray, List.set_cons_zero, List.set_cons_succ]
            refine anyF_take (i := 19) (v := undef) rfl (by kernel_rfl) (by kernel_rfl) (by kernel_rfl) (fun _ _ _ h => h) (Or.inr ⟨by rfl, rfl⟩) (by assumption) ?_
            simp only [Act.put, List.getElem_toArray, List.getElem_cons_zero, List.getElem_cons_succ, List.setIfInBounds_toArray, List.set_cons_zero, List.set_cons_succ]
            refine anyF_take (i := 20) (v := undef) rfl (by kernel_rfl) (by kernel_rfl) (by kernel_rfl) (fun _ _ _ h => h) (Or.inr ⟨by rfl, rfl⟩) (by assumption) ?_
            simp only [Act.put, List.getElem_toArray, List.getElem_cons_zero, List.getElem_cons_succ, List.setIfInBounds_toArray, List.set_cons_zero, List.set_cons_succ]
            refine anyF_take (i := 21) (v := undef) rfl (by kernel_rfl) (by kernel_rfl) (by kernel_rfl) (fun _ _ _ h => h) (Or.inr ⟨by rfl, rfl⟩) (by assumption) ?_
            simp only [Act.put, List.getElem_toArray, List.getElem_cons_zero, List.getElem_cons_succ, List.setIfInBounds_toArray, List.set_cons_zero, List.set_cons_succ]
            refine anyF_take (i := 22) (v := undef) rfl (by kernel_rfl) (by kernel_rfl) (by kernel_rfl) (fun _ _ _ h => h) (Or.inr ⟨by rfl, rfl⟩) (by assumption) ?_
            simp only [Act.put, List.getElem_toArray, List.getElem_cons_zero, List.getElem_cons_succ, List.setIfInBounds_toArray, List.set_cons_zero, List.set_cons_succ]
            refine anyF_take (i := 23) (v := ?_) rfl (by kernel_rfl) (by kernel_rfl) (by kernel_rfl) (fun _ _ _ h => h) (Or.inl ⟨by rfl, ?_⟩) (by assumption) ?_
            rotate_left
            · intro w hSw
              go_simp
              try with_reducible rfl
            simp only [Act.put, List.getElem_toArray, List.getElem_cons_zero, List.getElem_cons_succ, List.setIfInBounds_toArray, List.set_cons_zero, List.set_cons_succ]
            refine anyF_done (by kernel_rfl) ?_ _
            refine Only.normal ?_
            obtain ⟨wz, hwz⟩ : ∃ q, wy.drew = q := ⟨_, rfl⟩
            rw [hwz]
            have hbz : Below wy.heap.size wy wz := by rw [← hwz]; exact below_drew (Below.refl _ wy)
            have HFIN : Aside0 (J Y wz ∧ KT wy wz) := ⟨by rw [← hwz]; exact HJ.out Y wy _ none HJY.out ⟨rfl, rfl, rfl, Nat.le_refl _, fun _ _ _ => rfl⟩ (fun r e => by cases e), KT.of_below hbz⟩
            clear hwz hbz hHeld cp x0 q0 q1
            gi_wp2
            gi_roundg gn
            case measure => exact Nat.lt_succ_self _
            case rel => exact ⟨k + 1, Z0, Z1, Y, by simp, ⟨by have := HK.out; omega⟩, ⟨HFIN.out.2 _ _ _ (.inl rfl) HOY.out⟩, ⟨HFIN.out.1⟩, HYN, ⟨HKY.out.trans HFIN.out.2⟩, ⟨by have := HZB.out; omega⟩⟩
          · have ba : (e'.a == e.a) = false := beq_eq_false_iff_ne.mpr hea
            have bb : (e'.a != e.a) = true := by simp [bne, ba]
            have hyl := HYL.out
            rw [yl_next HEK.out HE'.out hea, HBU.out] at hyl
            have HPRE : Aside0 (Y ++ [⟨e.a, Z0, Z1⟩] <+: yl E (0, 0)) := ⟨by rw [← hyl]; exact ⟨yl (E.drop (k + 1)) (Z0, Z1), by simp⟩⟩
            have HYN : Aside0 (Y ++ [⟨e.a, Z0, Z1⟩] ++ yl (E.drop (k + 1)) (Z0, Z1) = yl E (0, 0)) := ⟨by simpa using hyl⟩
            clear hyl hea HYL
            refine region_F (S := (fun w' => w'.cell? ⟨p, 0, none⟩ = some (.slice (some ⟨g, 0, none⟩) N c) ∧ w'.cell? ⟨bx, 0, none⟩ = some (.int .i64 e.a) ∧ w'.cell? ⟨b3, 0, none⟩ = some (.int .i64 Z0) ∧ w'.cell? ⟨b3, 1, none⟩ = some (.int .i64 Z1) ∧ w'.cell? ⟨g, (k + 1) * 3, none⟩ = some (.int .i64 e'.a))) (by kernel_rfl) ?_ (fun hHeld => ?_)
            · exact ⟨cp, x0, q0, q1, ce⟩
            refine anyF_take (i := 0) (v := ?_) rfl (by kernel_rfl) (by kernel_rfl) (by kernel_rfl) (fun _ _ _ h => h) (Or.inl ⟨by rfl, ?_⟩) (by assumption) ?_
            rotate_left
            · intro w hSw
              go_simp
              try with_reducible rfl
            simp only [Act.put, List.getElem_toArray, List.getElem_cons_zero, List.getElem_cons_succ, List.setIfInBounds_toArray, List.set_cons_zero, List.set_cons_succ]
            refine anyF_take (i := 1) (v := ?_) rfl (by kernel_rfl) (by kernel_rfl) (by kernel_rfl) (fun _ _ _ h => h) (Or.inl ⟨by rfl, ?_⟩) (by assumption) ?_
            rotate_left
            · intro w hSw
              go_simp
              try with_reducible rfl
            simp only [Act.put, List.getElem_toArray, List.getElem_cons_zero, List.getElem_cons_succ, List.setIfInBounds_toArray, List.set_cons_zero, List.set_cons_succ]
            refine anyF_take (i := 2) (v := ?_) rfl (by kernel_rfl) (by kernel_rfl) (by kernel_rfl) (fun _ _ _ h => h) (Or.inl ⟨by rfl, ?_⟩) (by assumption) ?_
            rotate_left
            · intro w hSw
              go_simp
              try with_reducible rfl
            simp only [Act.put, List.getElem_toArray, List.getElem_cons_zero, List.getElem_cons_succ, List.setIfInBounds_toArray, List.set_cons_zero, List.set_cons_succ]
            refine anyF_take (i := 3) (v := ?_) rfl (by kernel_rfl) (by kernel_rfl) (by kernel_rfl) (fun _ _ _ h => h) (Or.inl ⟨by rfl, ?_⟩) (by assumption) ?_
            rotate_left
            · intro w hSw
              go_simp
              try with_reducible rfl
            simp only [Act.put, List.getElem_toArray, List.getElem_cons_zero, List.getElem_cons_succ, List.setIfInBounds_toArray, List.set_cons_zero, List.set_cons_succ]
            refine anyF_take (i := 4) (v := ?_) rfl (by kernel_rfl) (by kernel_rfl) (by kernel_rfl) (fun _ _ _ h => h) (Or.inl ⟨by rfl, ?_⟩) (by assumption) ?_
            rotate_left
            · intro w hSw
              go_simp
              try with_reducible rfl
            simp only [Act.put, List.getElem_toArray, List.getElem_cons_zero, List.getElem_cons_succ, List.setIfInBounds_toArray, List.set_cons_zero, List.set_cons_succ]
            refine anyF_take (i := 5) (v := ?_) rfl (by kernel_rfl) (by kernel_rfl) (by kernel_rfl) (fun _ _ _ h => h) (Or.inl ⟨by rfl, ?_⟩) (by assumption) ?_
            rotate_left
            · intro w hSw
              go_simp
              try with_reducible rfl
            simp only [Act.put, List.getElem_toArray, List.getElem_cons_zero, List.getElem_cons_succ, List.setIfInBounds_toArray, List.set_cons_zero, List.set_cons_succ]
            refine anyF_take (i := 6) (v := ?_) rfl (by kernel_rfl) (by kernel_rfl) (by kernel_rfl) (fun _ _ _ h => h) (Or.inl ⟨by rfl, ?_⟩) (by assumption) ?_
            rotate_left
            · intro w hSw
              go_simp
              try with_reducible rfl
            simp only [Act.put, List.getElem_toArray, List.getElem_cons_zero, List.getElem_cons_succ, List.setIfInBounds_toArray, List.set_cons_zero, List.set_cons_succ]
            refine anyF_take (i := 7) (v := ?_) rfl (by kernel_rfl) (by kernel_rfl) (by kernel_rfl) (fun _ _ _ h => h) (Or.inl ⟨by rfl, ?_⟩) (by assumption) ?_
            rotate_left
            · intro w hSw
              go_simp
              try with_reducible rfl
            simp only [Act.put, List.getElem_toArray, List.getElem_cons_zero, List.getElem_cons_succ, List.setIfInBounds_toArray, List.set_cons_zero, List.set_cons_succ]
            refine anyF_take (i := 8) (v := ?_) rfl (by kernel_rfl) (by kernel_rfl) (by kernel_rfl) (fun _ _ _ h => h) (Or.inl ⟨by rfl, ?_⟩) (by assumption) ?_
            rotate_left
            · intro w hSw
              go_simp
              try with_reducible rfl
            simp only [Act.put, List.getElem_toArray, List.getElem_cons_zero, List.getElem_cons_succ, List.setIfInBounds_toArray, List.set_cons_zero, List.set_cons_succ]
            refine anyF_take (i := 9) (v := ?_) rfl (by kernel_rfl) (by kernel_rfl) (by kernel_rfl) (fun _ _ _ h => h) (Or.inl ⟨by rfl, ?_⟩) (by assumption) ?_
            rotate_left
            · intro w hSw
              go_simp
              try with_reducible rfl
            simp only [Act.put, List.getElem_toArray, List.getElem_cons_zero, List.getElem_cons_succ, List.setIfInBounds_toArray, List.set_cons_zero, List.set_cons_succ]
            refine anyF_take (i := 10) (v := ?_) rfl (by kernel_rfl) (by kernel_rfl) (by kernel_rfl) (fun _ _ _ h => h) (Or.inl ⟨by rfl, ?_⟩) (by assumption) ?_
            rotate_left
            · intro w hSw
              go_simp
              try with_reducible rfl
            simp only [Act.put, List.getElem_toArray, List.getElem_cons_zero, List.getElem_cons_succ, List.setIfInBounds_toArray, List.set_cons_zero, List.set_cons_succ]
            refine anyF_take (i := 11) (v := ?_) rfl (by kernel_rfl) (by kernel_rfl) (by kernel_rfl) (fun _ _ _ h => h) (Or.inl ⟨by rfl, ?_⟩) (by assumption) ?_
            rotate_left
            · intro w hSw
              go_simp
              try with_reducible rfl
            simp only [Act.put, List.getElem_toArray, List.getElem_cons_zero, List.getElem_cons_succ, List.setIfInBounds_toArray, List.set_cons_zero, List.set_cons_succ]
            refine anyF_take (i := 12) (v := ?_) rfl (by kernel_rfl) (by kernel_rfl) (by kernel_rfl) (fun _ _ _ h => h) (Or.inl ⟨by rfl, ?_⟩) (by assumption) ?_
            rotate_left
            · intro w hSw
              go_simp
              try with_reducible rfl
            simp only [Act.put, List.getElem_toArray, List.getElem_cons_zero, List.getElem_cons_succ, List.setIfInBounds_toArray, List.set_cons_zero, List.set_cons_succ]
            refine anyF_take (i := 13) (v := ?_) rfl (by kernel_rfl) (by kernel_rfl) (by kernel_rfl) (fun _ _ _ h => h) (Or.inl ⟨by rfl, ?_⟩) (by assumption) ?_
            rotate_left
            · intro w hSw
              go_simp
              try with_reducible rfl
            simp only [Act.put, List.getElem_toArray, List.getElem_cons_zero, List.getElem_cons_succ, List.setIfInBounds_toArray, List.set_cons_zero, List.set_cons_succ]
            refine anyF_take (i := 14) (v := ?_) rfl (by kernel_rfl) (by kernel_rfl) (by kernel_rfl) (fun _ _ _ h => h) (Or.inl ⟨by rfl, ?_⟩) (by assumption) ?_
            rotate_left
            · intro w hSw
              go_simp
              try with_reducible rfl
            simp only [Act.put, List.getElem_toArray, List.getElem_cons_zero, List.getElem_cons_succ, List.setIfInBounds_toArray, List.set_cons_zero, List.set_cons_succ]
            refine anyF_take (i := 15) (v := ?_) rfl (by kernel_rfl) (by kernel_rfl) (by kernel_rfl) (fun _ _ _ h => h) (Or.inl ⟨by rfl, ?_⟩) (by assumption) ?_
            rotate_left
            · intro w hSw
              go_simp
              try with_reducible rfl
            simp only [Act.put, List.getElem_toArray, List.getElem_cons_zero, List.getElem_cons_succ, List.setIfInBounds_toArray, List.set_cons_zero, List.set_cons_succ]
            refine anyF_take (i := 16) (v := ?_) rfl (by kernel_rfl) (by kernel_rfl) (by kernel_rfl) (fun _ _ _ h => h) (Or.inl ⟨by rfl, ?_⟩) (by assumption) ?_
            rotate_left
            · intro w hSw
              go_simp
              try with_reducible rfl
            simp only [Act.put, List.getElem_toArray, List.getElem_cons_zero, List.getElem_cons_succ, List.setIfInBounds_toArray, List.set_cons_zero, List.set_cons_succ]
            refine anyF_take (i := 17) (v := ?_) rfl (by kernel_rfl) (by kernel_rfl) (by kernel_rfl) (fun _ _ _ h => h) (Or.inl ⟨by rfl, ?_⟩) (by assumption) ?_
            rotate_left
            · intro w hSw
              go_simp
              try with_reducible rfl
            simp only [Act.put, List.getElem_toArray, List.getElem_cons_zero, List.getElem_cons_succ, List.setIfInBounds_toArray, List.set_cons_zero, List.set_cons_succ]
            refine anyF_take (i := 18) (v := ?_) rfl (by kernel_rfl) (by kernel_rfl) (by kernel_rfl) (fun _ _ _ h => h) (Or.inl ⟨by rfl, ?_⟩) (by assumption) ?_
            rotate_left
            · intro w hSw
              go_simp
              try with_reducible rfl
            simp only [Act.put, List.getElem_toArray, List.getElem_cons_zero, List.getElem_cons_succ, List.setIfInBounds_toArray, List.set_cons_zero, List.set_cons_succ]
            refine anyF_take (i := 19) (v := ?_) rfl (by kernel_rfl) (by kernel_rfl) (by kernel_rfl) (fun _ _ _ h => h) (Or.inl ⟨by rfl, ?_⟩) (by assumption) ?_
            rotate_left
            · intro w hSw
              go_simp
              try with_reducible rfl
            simp only [Act.put, List.getElem_toArray, List.getElem_cons_zero, List.getElem_cons_succ, List.setIfInBounds_toArray, List.set_cons_zero, List.set_cons_succ]
            refine anyF_take (i := 20) (v := ?_) rfl (by kernel_rfl) (by kernel_rfl) (by kernel_rfl) (fun _ _ _ h => h) (Or.inl ⟨by rfl, ?_⟩) (by assumption) ?_
            rotate_left
            · intro w hSw
              go_simp
              try with_reducible rfl
            simp only [Act.put, List.getElem_toArray, List.getElem_cons_zero, List.getElem_cons_succ, List.setIfInBounds_toArray, List.set_cons_zero, List.set_cons_succ]
            obtain ⟨fn, tmps, assign, body, hy, hR⟩ := HY.out Y ⟨e.a, Z0, Z1⟩ wy.drew (HJ.out Y wy _ none HJY.out ⟨rfl, rfl, rfl, Nat.le_refl _, fun _ _ _ => rfl⟩ (fun r e => by cases e)) HPRE.out
            dsimp only [encY] at hy
            refine anyF_one (i := 21) (by kernel_rfl) rfl (fun K' hK => ?_)
            rw [if_pos (by rfl)]
            refine ⟨wide_about, ?_⟩
            rw [show Fence.wide.round = none from rfl, Oper.semAt_none]
            refine upon_round (l := l) (fn := fn) (tmps := tmps) (assign := assign) (body := body) (w := wy.drew) ?_ ?_
            · go_simp
            refine RoundIn.mono hR ?_
            rintro _ w2 ⟨rfl, hJ2, hK2⟩
            have hky : KT wy w2 := (KT.of_below (below_drew (Below.refl _ wy))).trans hK2
            have HJ2 := Aside0.mk hJ2
            have HK2 := Aside0.mk hky
            have cp : w2.cell? ⟨p, 0, none⟩ = some (.slice (some ⟨g, 0, none⟩) N c) := cell_of_row _ _ 0 _ _ _ ((HKY.out.trans hky) _ _ _ (.inr (.inl rfl)) HP.out)
            have x0 : w2.cell? ⟨bx, 0, none⟩ = some (.int .i64 e.a) := cell_of_row _ _ 0 _ _ _ (hky _ _ _ (.inr (.inr rfl)) HXY.out)
            have q0 : w2.cell? ⟨b3, 0, none⟩ = some (.int .i64 Z0) := cell_of_row _ _ 0 _ _ _ (hky _ _ _ (.inl rfl) HOY.out)
            have q1 : w2.cell? ⟨b3, 1, none⟩ = some (.int .i64 Z1) := cell_of_row _ _ 1 _ _ _ (hky _ _ _ (.inl rfl) HOY.out)
            have ce : w2.cell? ⟨g, (k + 1) * 3, none⟩ = some (.int .i64 e'.a) := by
              have h1 := (HRW.out (k + 1) e' HE'.out).1
              rw [cell_of_row _ _ _ _ _ _ HG.out] at h1
              rw [cell_of_row _ _ _ _ _ _ ((HKY.out.trans hky) _ _ _ (.inr (.inr rfl)) HG.out)]
              exact h1
            refine hK _ _ ⟨cp, x0, q0, q1, ce⟩ ?_
            clear hK K' hy hR hJ2 hK2 hky hHeld
            try simp only [Act.put, List.getElem_toArray, List.getElem_cons_zero, List.getElem_cons_succ, List.setIfInBounds_toArray, List.set_cons_zero, List.set_cons_succ]
            have hHeld : (fun w' => w'.cell? ⟨p, 0, none⟩ = some (.slice (some ⟨g, 0, none⟩) N c) ∧ w'.cell? ⟨bx, 0, none⟩ = some (.int .i64 e.a) ∧ w'.cell? ⟨b3, 0, none⟩ = some (.int .i64 Z0) ∧ w'.cell? ⟨b3, 1, none⟩ = some (.int .i64 Z1) ∧ w'.cell? ⟨g, (k + 1) * 3, none⟩ = some (.int .i64 e'.a)) w2 := ⟨cp, x0, q0, q1, ce⟩
            refine anyF_take (i := 22) (v := ?_) rfl (by kernel_rfl) (by kernel_rfl) (by kernel_rfl) (fun _ _ _ h => h) (Or.inl ⟨by rfl, ?_⟩) (by assumption) ?_
            rotate_left
            · intro w hSw
              go_simp
              try with_reducible rfl
            simp only [Act.put, List.getElem_toArray, List.getElem_cons_zero, List.getElem_cons_succ, List.setIfInBounds_toArray, List.set_cons_zero, List.set_cons_succ]
            refine anyF_take (i := 23) (v := ?_) rfl (by kernel_rfl) (by kernel_rfl) (by kernel_rfl) (fun _ _ _ h => h) (Or.inl ⟨by rfl, ?_⟩) (by assumption) ?_
            rotate_left
            · intro w hSw
              go_simp
              try with_reducible rfl
            simp only [Act.put, List.getElem_toArray, List.getElem_cons_zero, List.getElem_cons_succ, List.setIfInBounds_toArray, List.set_cons_zero, List.set_cons_succ]
            refine anyF_done (by kernel_rfl) ?_ _
            refine Only.normal ?_
            clear hHeld cp x0 q0 q1
            gi_wp2
            gi_roundg gn
            case measure => exact Nat.lt_succ_self _
            case rel => exact ⟨k + 1, Z0, Z1, _, by simp, ⟨by have := HK.out; omega⟩, ⟨HK2.out _ _ _ (.inl rfl) HOY.out⟩, HJ2, HYN, ⟨HKY.out.trans HK2.out⟩, ⟨by have := HZB.out; omega⟩⟩
    · have hk1 : ¬ ((k : Int) < (N : Int)) := by omega
      have hyl := HYL.out
      rw [List.drop_of_length_le (by rw [HLN.out]; omega)] at hyl
      have HFIN : Aside0 (J (yl E (0, 0)) wr) := ⟨by rw [← hyl]; simpa [yl] using HJY.out⟩
      clear hyl HYL HJY HK HO HKT HOB
      gi_wp2
      go_end0
      exact ⟨⟨_, rfl⟩, HFIN.out⟩
end Go.Proofs.Ytcbddmmoioggaaa.Sp
