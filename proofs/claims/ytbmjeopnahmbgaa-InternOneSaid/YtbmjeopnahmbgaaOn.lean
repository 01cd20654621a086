/- Two states have one number just if they are equal: the law's walk. -/
import Derived.Test.YtbmjeopnahmbgaaAr
namespace Go.Proofs.Ytbmjeopnahmbgaa.In
open Go.RowKit Go.Proofs.YtbmjeopnahmbgaaW.PrintWords Go.Proofs.YtbmjeopnahmbgaaW.PrintLast Go.Proofs.YtbmjeopnahmbgaaW.PrintMore
open Go.WideShapes
set_option linter.unusedVariables false

theorem info3 : (Try.prog.info? 3).map (fun i => (i.zero, i.size, i.bytes)) = some (some (.int .i64 0), 1, 8) := by kernel_rfl
/-- The numbers that were told, and the states they are of. -/
def Told (l L : List (Array Value)) (ids : List Int) : Prop := ∀ (j : Nat) (i : Int), ids[j]? = some i → ∃ (m : Nat) (x : Array Value), i = (m : Int) ∧ l[j]? = some x ∧ L[m]? = some x
/-- The table and the row of numbers, apart. -/
structure Held (w : World) (B : Nat) (p : Nat) (L : List (Array Value)) (v : Value) (ids : List Int) : Prop where
  mk ::
  out : ∃ ok1 ok2 : Nat → Prop, IT w B ok1 p L ∧ (Kd.int .i64).R 3 w B ok2 v ids ∧ (∀ k, ok1 k → ok2 k → False) ∧ (∀ k, ok1 k → k < w.heap.size)
theorem Held.below {w w' : World} {B p : Nat} {L : List (Array Value)} {v : Value} {ids : List Int} (h : Held w B p L v ids) (hb : Below w.heap.size w w') : Held w' B p L v ids := by
  obtain ⟨ok1, ok2, h1, h2, h3, h4⟩ := h.out
  exact ⟨ok1, ok2, h1.below hb, Kd.R_below h2 hb, h3, fun k hk => Nat.lt_of_lt_of_le (h4 k hk) hb.size⟩
theorem Told.snoc {l L L' : List (Array Value)} {ids : List Int} {x : Array Value} {i : Int} (h : Told l L ids) (hx : l[ids.length]? = some x) (hi : IdR L x i L') : Told l L' (ids ++ [i]) := by
  intro j q hq
  have hjl := (List.getElem?_eq_some_iff.1 hq).1
  rw [List.length_append, List.length_singleton] at hjl
  by_cases hj : j < ids.length
  · rw [List.getElem?_append_left hj] at hq
    obtain ⟨m, y, e1, e2, e3⟩ := h j q hq
    refine ⟨m, y, e1, e2, ?_⟩
    rcases hi with ⟨k, rfl, hk, rfl⟩ | ⟨hn, rfl, rfl⟩
    · exact e3
    · rw [List.getElem?_append_left (List.getElem?_eq_some_iff.1 e3).1]; exact e3
  · have : j = ids.length := by omega
    subst this
    simp at hq
    subst hq
    rcases hi with ⟨k, rfl, hk, rfl⟩ | ⟨hn, rfl, rfl⟩
    · exact ⟨k, x, rfl, hx, hk⟩
    · exact ⟨L.length, x, rfl, hx, by simp⟩
theorem Told.nil (l L : List (Array Value)) : Told l L [] := fun j i h => by simp at h
theorem IdR.pos {L L' : List (Array Value)} {x : Array Value} {i : Int} (h : IdR L x i L') : 0 < L'.length := by
  rcases h with ⟨k, rfl, hk, rfl⟩ | ⟨hn, rfl, rfl⟩
  · exact Nat.lt_of_le_of_lt (Nat.zero_le _) (List.getElem?_eq_some_iff.1 hk).1
  · simp
/-- Element k of a row of states. -/
theorem state_at {w : World} {ad : Addr} {n : Nat} {l : List (Array Value)} {k : Nat} {a : Array Value} (h : ReadsRow RS 82 w (some ad) n l) (ha : l[k]? = some a) : IsSt a ∧ ∀ j v, a.toList[j]? = some v → w.cell? ((ad.add (k * 82)).add j) = some v := by
  have hk := (List.getElem?_eq_some_iff.1 ha).1
  obtain ⟨ad', e, hc⟩ := h.2.2 (by have := h.1; omega)
  injection e with e
  subst e
  obtain ⟨c, _, ⟨hs, rfl⟩, hcell⟩ := hc k a ha
  exact ⟨hs, fun j v hj => by rw [add_addA]; exact hcell j v hj⟩

/-- A number of the row, where it lies. -/
theorem id_at {w : World} {B : Nat} {ok : Nat → Prop} {A : Option Addr} {n c : Nat} {ids : List Int} (h : (Kd.int .i64).R 3 w B ok (.slice A n c) ids) (hp : 0 < ids.length) : ∃ g, A = some ⟨g, 0, none⟩ ∧ n = ids.length ∧ ok g ∧ ∀ (j : Nat) (q : Int), ids[j]? = some q → w.cell? ⟨g, j, none⟩ = some (.int .i64 q) := by
  obtain ⟨g, cap, hv, _⟩ := Kd.R_form h hp
  injection hv with h1 h2 h3
  subst h1
  refine ⟨g, rfl, h2, h.1 g rfl, fun j q hq => ?_⟩
  have hj := (List.getElem?_eq_some_iff.1 hq).1
  obtain ⟨s, hs1, hs2, hs3, hs4⟩ := Kd.R_elem h 0 (j : Int) (by omega) (by omega)
  have hs5 : s = [.int .i64 q] := by
    have : s = [.int .i64 (ids.getD (j : Int).toNat 0)] := hs2
    rw [this, Int.toNat_natCast, List.getD_eq_getElem?_getD, hq]
    rfl
  have := hs3 0 (.int .i64 q) (by rw [hs5]; rfl)
  simpa [Kd.int, Kd.scalar] using this
/-- The index that is told is the state's place. -/
theorem FindR.at_ {L : List (Array Value)} {x : Array Value} {m : Nat} {i : Int} {b : Bool} (hn : L.Nodup) (hm : L[m]? = some x) (h : FindR L x i b) : i = (m : Int) ∧ b = true := by
  rcases h with ⟨rfl, k, rfl, hk⟩ | ⟨_, _, hx⟩
  · have := (List.getElem?_inj (List.getElem?_eq_some_iff.1 hk).1 hn).1 (hk.trans hm.symm)
    exact ⟨by rw [this], rfl⟩
  · exact absurd (List.mem_of_getElem? hm) hx
theorem IdR.at_ {L L' : List (Array Value)} {x : Array Value} {m : Nat} {i : Int} (hn : L.Nodup) (hm : L[m]? = some x) (h : IdR L x i L') : i = (m : Int) ∧ L' = L := by
  rcases h with ⟨k, rfl, hk, rfl⟩ | ⟨hx, _, _⟩
  · have := (List.getElem?_inj (List.getElem?_eq_some_iff.1 hk).1 hn).1 (hk.trans hm.symm)
    exact ⟨by rw [this], rfl⟩
  · exact absurd (List.mem_of_getElem? hm) hx
theorem StateR.at_ {L : List (Array Value)} {x y : Array Value} {m : Nat} {n : Int} (hm : L[m]? = some x) (h : StateR L (m : Int) y n) : y = x ∧ n = 0 := by
  have hj := (List.getElem?_eq_some_iff.1 hm).1
  rcases h with ⟨_, _, hy, rfl⟩ | ⟨hx, _, _⟩
  · rw [Int.toNat_natCast] at hy
    exact ⟨Option.some.inj (hy.symm.trans hm), rfl⟩
  · exact absurd ⟨by omega, by omega⟩ hx

theorem exec_eq_other {x y : Array Value} (hx : IsSt x) (hy : IsSt y) (hne : x ≠ y) (ρ : Operand → Value) (o : Oper) (X Y : Operand) (t' : TypeId) (ho : o.op = .binOp .eql 37 X Y t') (hX : ρ X = .agg x) (hY : ρ Y = .agg y) (w : World) :
    (execOp ρ o).run Try.prog w = .ok (.value (.bool false)) w := by
  obtain ⟨r, hr, hiff⟩ := exec_eqS hx hy ρ o X Y t' ho hX hY
  rw [hr w]
  cases r
  · rfl
  · exact absurd (hiff.1 rfl) hne

set_option maxRecDepth 100000 in
set_option maxHeartbeats 4000000 in
theorem one_c (A : Option Addr) (n c : Nat) (l : List (Array Value)) (w : World) (hR : ReadsRow RS 82 w A n l) : Calls Try.prog 5 #[.slice A n c] w fun e w' => e = .returned (.bool true) ∧ Below w.heap.size w w' := by
  have HR := Aside0.mk hR
  have hn : l.length = n := hR.1
  have hm := hR.2.1
  clear hR
  go_enter Try.func5, Try.ntmps5
  by_cases hl : 200 < n
  · have b0 : decide ((200 : Int) < (n : Int)) = true := decide_eq_true (by omega)
    go_wp2_with (refine (wakes_c _).mono ?_)
    rintro _ w1 ⟨rfl, hb⟩
    have HB := Aside0.mk hb
    clear hb
    go_wp2_with (fail)
    go_ret
    exact ⟨rfl, HB.out⟩
  · have b0 : decide ((200 : Int) < (n : Int)) = false := decide_eq_false (by omega)
    go_wp2_with (refine (new_c _).mono ?_)
    rintro _ w1 ⟨p, rfl, h1, b1⟩
    have HBO : Aside0 (Held w1 w.heap.size p [] (.slice none 0 0) []) := ⟨⟨_, fun _ => False, h1.bound, Kd.R_nil _ _ _ _ _, fun _ _ h => h, fun k hk => hk.2⟩⟩
    have HB1 := Aside0.mk b1
    clear h1 b1
    go_upto_block 0 with (fail)
    go_wp2_with (fail)
    go_loopg [4, 5] n (fun gk v4 v5 wr => ∃ (k : Nat) (L : List (Array Value)) (ids : List Int), v5 = .int .i64 (k : Int) ∧ Aside0 (Held wr w.heap.size p L v4 ids) ∧ Aside0 (Below w.heap.size w wr) ∧ Aside0 (Told l L ids) ∧ Aside0 (ids.length = k ∧ L.length ≤ k ∧ (0 < k → 0 < L.length)) ∧ Aside0 (k + gk = n))
    case atStart => exact ⟨0, [], [], rfl, HBO, HB1, ⟨Told.nil _ _⟩, ⟨rfl, Nat.le_refl _, fun h => absurd h (by omega)⟩, ⟨by omega⟩⟩
    case round =>
      clear HBO HB1
      obtain ⟨k, L, ids, rfl, HBO, HB, HT, HL, HK⟩ := hrel
      by_cases hkn : k < n
      · obtain ⟨gn, rfl⟩ : ∃ gn, gk = gn + 1 := ⟨gk - 1, by have := HK.out; omega⟩
        obtain ⟨x, hx⟩ : ∃ x, l[k]? = some x := ⟨_, List.getElem?_eq_getElem (by omega)⟩
        obtain ⟨ad, hA, _⟩ := HR.out.2.2 (by omega)
        subst hA
        obtain ⟨hsx, hat⟩ := state_at HR.out hx
        have HAT : Aside0 (∀ j v, x.toList[j]? = some v → wr.cell? ((ad.add (k * 82)).add j) = some v) := ⟨fun j v hj => pw_cell_below HB.out (hat j v hj)⟩
        have HSX := Aside0.mk hsx
        have HX := Aside0.mk hx
        obtain ⟨ok1, ok2, h1, h2, h3, h4⟩ := HBO.out.out
        have H1 := Aside0.mk h1
        obtain ⟨A4, c4, rfl⟩ := Kd.R_slice h2
        have H2 := Aside0.mk (Kd.R_mono (Kd.R_bound h2) (fun j hj => (⟨hj.1, hj.2.2.1⟩ : ok2 j ∧ j < wr.heap.size)))
        have hws := HB.out.size
        have p0 : (0 : Int) ≤ (k : Int) := by omega
        have p1 : (k : Int) < (n : Int) := by omega
        clear hat hsx hx HBO h1 h2
        go_wp2_with (first
          | (refine wpList_runV (by rfl) _ (exec_load_any rfl Try.underlying37 (infoSL HSX.out) _ _ _ (by rfl) (by rfl) _ HAT.out) ?_)
          | (refine (id_c p L x HSX.out (by have := HL.out; have := HK.out; omega) wr w.heap.size ok1 H1.out hws).mono ?_))
        rintro _ w2 ⟨i, L', rfl, hi, h1', hb2, hfr⟩
        have hs2 : wr.heap.size ≤ w2.heap.size := hb2.size
        have H1' := Aside0.mk h1'.bound
        have H2' : Aside0 ((Kd.int .i64).R 3 w2 w.heap.size (fun j => (ok2 j ∧ j < wr.heap.size) ∨ w2.heap.size ≤ j) (.slice A4 ids.length c4) ids) := ⟨Kd.R_mono (Kd.R_move H2.out (fun j hj => hfr j hj.2 (fun h => h3 j h hj.1))) (fun j hj => .inl hj)⟩
        have hil : ids.length ≤ 200 := by have := HL.out.1; omega
        have HB2 := Aside0.mk (HB.out.trans hb2)
        have HI := Aside0.mk hi
        have hws2 := HB2.out.size
        clear h1' hb2 hfr hi
        go_wp2_with (at_builtin; refine Kd.R_append (Kd.int .i64) (w0 := w) w.heap.size rfl (.tmp 23) (.tmp 30) 49 3 (.int .i64 0) 8 rfl Try.underlying49 info3 rfl (by decide) (by decide) (.slice A4 ids.length c4) ids i [.int .i64 i] (fun j => (ok2 j ∧ j < wr.heap.size) ∨ w2.heap.size ≤ j) (fun _ => False) rfl rfl rfl (fun _ h => h.elim) (fun _ h => .inr h) H2'.out HB2.out hws2 (by omega) ?_; intro v1 w3 hr1 hb1 hg1 _; have HR1 := Aside0.mk hr1; have HB3 := Aside0.mk hb1; have HG1 := Aside0.mk hg1; clear hr1 hb1 hg1)
        go_roundg gn
        case measure => exact Nat.lt_succ_self _
        case rel =>
          refine ⟨k + 1, L', ids ++ [i], by simp, ⟨⟨_, _, H1'.out.move (fun j hj hjs => HG1.out.block j hjs (fun e => ?_)), HR1.out, fun j hj hj' => ?_, fun j hj => Nat.lt_of_lt_of_le hj.2 HG1.out.size⟩⟩, HB3, ⟨HT.out.snoc (by rw [HL.out.1]; exact HX.out) HI.out⟩, ⟨by simp [HL.out.1], by have h8 := HI.out.len; have h9 := HL.out.2.1; omega, fun _ => HI.out.pos⟩, ⟨by have := HK.out; omega⟩⟩
          · have := H2.out.1 j e.symm
            rcases hj.1 with h5 | h5
            · exact h3 j h5 this.1
            · have := this.2; omega
          · rcases hj' with h6 | h6
            · rcases hj.1 with h5 | h5
              · exact h3 j h5 h6.1
              · have := h6.2; omega
            · have := hj.2; omega
      · have hkn' : k = n := by have := HK.out; omega
        obtain ⟨hidl, hLn, hLp⟩ := HL.out
        subst hkn'
        have b1 : decide ((k : Int) < (k : Int)) = false := decide_eq_false (by omega)
        clear HK HL hkn
        go_upto_block 2 with (fail)
        go_wp2_with (fail)
        go_loopg [6] k (fun gj v6 wx => ∃ (i : Nat), v6 = .int .i64 (i : Int) ∧ Aside0 (Held wx w.heap.size p L u4 ids) ∧ Aside0 (Below w.heap.size w wx) ∧ Aside0 (i + gj = k))
        case atStart => exact ⟨0, rfl, HBO, HB, ⟨by omega⟩⟩
        case round =>
          clear HBO HB
          obtain ⟨i, rfl, HBO, HB, HK⟩ := hrel
          by_cases hin : i < k
          · obtain ⟨gn, rfl⟩ : ∃ gn, gk = gn + 1 := ⟨gk - 1, by have := HK.out; omega⟩
            obtain ⟨ad, hA, _⟩ := HR.out.2.2 (by omega)
            subst hA
            obtain ⟨ok1, ok2, h1, h2, h3, h4⟩ := HBO.out.out
            obtain ⟨A4, c4, hv4⟩ := Kd.R_slice h2
            rw [hidl] at hv4
            subst hv4
            obtain ⟨g, rfl, -, hg2, hids⟩ := id_at h2 (by omega)
            obtain ⟨idi, hidi⟩ : ∃ q, ids[i]? = some q := ⟨_, List.getElem?_eq_getElem (by omega)⟩
            obtain ⟨m, x, rfl, hx, hmx⟩ := HT.out i idi hidi
            obtain ⟨hsx, hat⟩ := state_at HR.out hx
            have hci := hids i _ hidi
            have HSX := Aside0.mk hsx
            have HX := Aside0.mk hx
            have HMX := Aside0.mk hmx
            have HAT := Aside0.mk hat
            have hml : m < L.length := (List.getElem?_eq_some_iff.1 hmx).1
            have H1 := Aside0.mk h1
            have H2 := Aside0.mk (Kd.R_mono (Kd.R_bound h2) (fun j hj => (⟨hj.1, hj.2.2.1⟩ : ok2 j ∧ j < wr.heap.size)))
            have hws := HB.out.size
            have hgw : g < wr.heap.size := by
              have := Kd.R_lt h2 g rfl
              exact this
            have p0 : (0 : Int) ≤ (i : Int) := by omega
            have p1 : (i : Int) < (ids.length : Int) := by omega
            have p2 : (i : Int) < (k : Int) := by omega
            clear hsx hx hmx hat h1 h2 hids hidi HBO b1
            go_wp2_with (refine (state_c p L (m : Int) (by omega) wr w.heap.size ok1 H1.out).mono ?_)
            rintro _ w2 ⟨⟨y, er, rfl, hs⟩, hb2⟩
            obtain ⟨rfl, rfl⟩ := StateR.at_ HMX.out hs
            have hz2 := heap_alloc_new w2 (.cells zS 37)
            obtain ⟨w3, hw3⟩ : ∃ w3, (w2.alloc (.cells zS 37)).setRow w2.heap.size y = w3 := ⟨_, rfl⟩
            have b3 : Below w2.heap.size w2 w3 := by rw [← hw3]; exact below_setRowS (below_alloc (Below.refl _ w2) _) (Nat.le_refl _) _
            have hr3 : w3.heap[w2.heap.size]? = some (.cells y 37 (0, 0)) := by rw [← hw3]; exact setRow_heap _ _ _ _ _ _ hz2
            have hb3 : Below wr.heap.size wr w3 := hb2.trans (b3.mono hb2.size)
            have hb7 : wr.heap.size ≤ w2.heap.size := hb2.size
            obtain ⟨b, hbq⟩ : ∃ b, w2.heap.size = b := ⟨_, rfl⟩
            rw [hbq] at hr3 hb7 hw3
            have hb37 : b < w3.heap.size := blk_lt hr3
            have H13 := Aside0.mk (H1.out.below hb3)
            have HB3 := Aside0.mk (HB.out.trans (hb3.mono hws))
            have H23 := Aside0.mk (Kd.R_below H2.out hb3)
            have hci3 : w3.cell? ⟨g, i, none⟩ = some (.int .i64 (m : Int)) := (World.cell?_of_block (hb3.block g hgw)).trans hci
            have HAT3 : Aside0 (∀ j v, y.toList[j]? = some v → w3.cell? ((ad.add (i * 82)).add j) = some v) := ⟨fun j v hj => pw_cell_below HB3.out (HAT.out j v hj)⟩
            have HZ2 := Aside0.mk hz2
            have HR3 := Aside0.mk hr3
            have hsz3 := hb3.size
            clear hb2 hs hz2 b3 hr3 hb3 hci
            go_upto_region 13 with (first
              | (refine wpList_runV (by rfl) _ (exec_allocS _ _ (by rfl) _) ?_)
              | (refine wpList_store_row (by rfl) 37 _ _ (by rfl) w2.heap.size y (by rfl) (by rfl) 37 zS HZ2.out (by rw [infoS, HSX.out.size]) (by rw [sizeZ, HSX.out.size]) (oneAll HSX.out) ?_))
            try rw [hw3]
            try rw [hbq]
            clear hw3
            go_wp2_with (first
              | (refine wpList_runV (by rfl) _ (exec_load_any rfl Try.underlying37 (infoSL HSX.out) _ _ _ (by rfl) (by rfl) _ HAT3.out) ?_)
              | (refine (find_c p L y HSX.out (by omega) w3 w.heap.size ok1 H13.out).mono ?_))
            rintro _ w4 ⟨⟨q, bq, rfl, hfd⟩, hb4⟩
            obtain ⟨rfl, rfl⟩ := FindR.at_ H13.out.nodup HMX.out hfd
            have H14 := Aside0.mk (H13.out.below hb4)
            have H24 := Aside0.mk (Kd.R_below H23.out hb4)
            have HB4 := Aside0.mk (HB3.out.trans (hb4.mono (by omega)))
            have hci4 : w4.cell? ⟨g, i, none⟩ = some (.int .i64 (m : Int)) := (World.cell?_of_block (hb4.block g (by omega))).trans hci3
            have hat4 : ∀ j v, y.toList[j]? = some v → w4.cell? ((ad.add (i * 82)).add j) = some v := fun j v hj => pw_cell_below HB4.out (HAT.out j v hj)
            have hr4 : w4.rangeAt b 0 y.toList := fun j v hj => by
              rw [Nat.zero_add, cell_of_row _ _ _ _ _ _ ((hb4.block b hb37).trans HR3.out)]
              simpa using hj
            have hsz4 := hb4.size
            have hix := infoSL HSX.out
            clear hb4 hfd hci3 HR3
            go_upto_region 14 with (fail)
            refine wp_region_noPanic ?_
            refine wp_region_held_drew (S := (fun w' => (∀ j v, y.toList[j]? = some v → w'.cell? ((ad.add (i * 82)).add j) = some v) ∧ w'.rangeAt b 0 y.toList ∧ w'.cell? ⟨g, i, none⟩ = some (.int .i64 (m : Int)))) (by kernel_rfl) ?_ (fun hHeld => ?_)
            · exact ⟨hat4, hr4, hci4⟩
            refine wpAnyH_take (i := 0) (v := ?_) rfl (by kernel_rfl) (by kernel_rfl) (by kernel_rfl) (fun _ _ _ h => h) (Or.inl ⟨by rfl, ?_⟩) (by assumption) ?_
            rotate_left
            · intro w hSw
              go_simp
              try with_reducible rfl
            simp only [Act.put, List.getElem_toArray, List.getElem_cons_zero, List.getElem_cons_succ, List.setIfInBounds_toArray, List.set_cons_zero, List.set_cons_succ]
            refine wpAnyH_take (i := 1) (v := ?_) rfl (by kernel_rfl) (by kernel_rfl) (by kernel_rfl) (fun _ _ _ h => h) (Or.inl ⟨by rfl, ?_⟩) (by assumption) ?_
            rotate_left
            · intro w hSw
              go_simp
              try with_reducible rfl
            simp only [Act.put, List.getElem_toArray, List.getElem_cons_zero, List.getElem_cons_succ, List.setIfInBounds_toArray, List.set_cons_zero, List.set_cons_succ]
            refine wpAnyH_take (i := 2) (v := ?_) rfl (by kernel_rfl) (by kernel_rfl) (by kernel_rfl) (fun _ _ _ h => h) (Or.inl ⟨by rfl, ?_⟩) (by assumption) ?_
            rotate_left
            · intro w hSw
              go_simp
              try with_reducible rfl
            simp only [Act.put, List.getElem_toArray, List.getElem_cons_zero, List.getElem_cons_succ, List.setIfInBounds_toArray, List.set_cons_zero, List.set_cons_succ]
            refine wpAnyH_take (i := 3) rfl (by kernel_rfl) (by kernel_rfl) (by kernel_rfl) (fun _ _ _ h => h) (yieldsIf_load_mid (by rfl) _ _ rfl _ _ rfl _ _ (fun w hSw => hSw.2.1) Try.underlying37 rfl hix) (by assumption) ?_
            simp only [Act.put, List.getElem_toArray, List.getElem_cons_zero, List.getElem_cons_succ, List.setIfInBounds_toArray, List.set_cons_zero, List.set_cons_succ]
            refine wpAnyH_take (i := 4) (v := ?_) rfl (by kernel_rfl) (by kernel_rfl) (by kernel_rfl) (fun _ _ _ h => h) (Or.inl ⟨by rfl, ?_⟩) (by assumption) ?_
            rotate_left
            · intro w hSw
              go_simp
              try with_reducible rfl
            simp only [Act.put, List.getElem_toArray, List.getElem_cons_zero, List.getElem_cons_succ, List.setIfInBounds_toArray, List.set_cons_zero, List.set_cons_succ]
            refine wpAnyH_take (i := 5) (v := ?_) rfl (by kernel_rfl) (by kernel_rfl) (by kernel_rfl) (fun _ _ _ h => h) (Or.inl ⟨by rfl, ?_⟩) (by assumption) ?_
            rotate_left
            · intro w hSw
              go_simp
              try with_reducible rfl
            simp only [Act.put, List.getElem_toArray, List.getElem_cons_zero, List.getElem_cons_succ, List.setIfInBounds_toArray, List.set_cons_zero, List.set_cons_succ]
            refine wpAnyH_take (i := 6) (v := ?_) rfl (by kernel_rfl) (by kernel_rfl) (by kernel_rfl) (fun _ _ _ h => h) (Or.inl ⟨by rfl, ?_⟩) (by assumption) ?_
            rotate_left
            · intro w hSw
              go_simp
              try with_reducible rfl
            simp only [Act.put, List.getElem_toArray, List.getElem_cons_zero, List.getElem_cons_succ, List.setIfInBounds_toArray, List.set_cons_zero, List.set_cons_succ]
            refine wpAnyH_take (i := 7) (v := .agg y) rfl (by kernel_rfl) (by kernel_rfl) (by kernel_rfl) (fun _ _ _ h => h) (Or.inl ⟨by rfl, fun w hSw => exec_load_any rfl Try.underlying37 (infoSL HSX.out) _ _ _ (by rfl) (by rfl) w hSw.1⟩) (by assumption) ?_
            simp only [Act.put, List.getElem_toArray, List.getElem_cons_zero, List.getElem_cons_succ, List.setIfInBounds_toArray, List.set_cons_zero, List.set_cons_succ]
            refine wpAnyH_take (i := 8) (v := .bool false) rfl (by kernel_rfl) (by kernel_rfl) (by kernel_rfl) (fun _ _ _ h => h) (Or.inl ⟨by rfl, fun w hSw => exec_ne_self HSX.out _ _ _ _ _ (by rfl) (by rfl) (by rfl) w⟩) (by assumption) ?_
            simp only [Act.put, List.getElem_toArray, List.getElem_cons_zero, List.getElem_cons_succ, List.setIfInBounds_toArray, List.set_cons_zero, List.set_cons_succ]
            refine wpAnyH_take (i := 9) (v := ?_) rfl (by kernel_rfl) (by kernel_rfl) (by kernel_rfl) (fun _ _ _ h => h) (Or.inl ⟨by rfl, ?_⟩) (by assumption) ?_
            rotate_left
            · intro w hSw
              go_simp
              try with_reducible rfl
            simp only [Act.put, List.getElem_toArray, List.getElem_cons_zero, List.getElem_cons_succ, List.setIfInBounds_toArray, List.set_cons_zero, List.set_cons_succ]
            refine wpAnyH_take (i := 10) (v := ?_) rfl (by kernel_rfl) (by kernel_rfl) (by kernel_rfl) (fun _ _ _ h => h) (Or.inl ⟨by rfl, ?_⟩) (by assumption) ?_
            rotate_left
            · intro w hSw
              go_simp
              try with_reducible rfl
            simp only [Act.put, List.getElem_toArray, List.getElem_cons_zero, List.getElem_cons_succ, List.setIfInBounds_toArray, List.set_cons_zero, List.set_cons_succ]
            refine wpAnyH_take (i := 11) (v := ?_) rfl (by kernel_rfl) (by kernel_rfl) (by kernel_rfl) (fun _ _ _ h => h) (Or.inl ⟨by rfl, ?_⟩) (by assumption) ?_
            rotate_left
            · intro w hSw
              go_simp
              try with_reducible rfl
            simp only [Act.put, List.getElem_toArray, List.getElem_cons_zero, List.getElem_cons_succ, List.setIfInBounds_toArray, List.set_cons_zero, List.set_cons_succ]
            refine wpAnyH_take (i := 12) (v := ?_) rfl (by kernel_rfl) (by kernel_rfl) (by kernel_rfl) (fun _ _ _ h => h) (Or.inl ⟨by rfl, ?_⟩) (by assumption) ?_
            rotate_left
            · intro w hSw
              go_simp
              try with_reducible rfl
            simp only [Act.put, List.getElem_toArray, List.getElem_cons_zero, List.getElem_cons_succ, List.setIfInBounds_toArray, List.set_cons_zero, List.set_cons_succ]
            refine wpAnyH_take (i := 13) (v := ?_) rfl (by kernel_rfl) (by kernel_rfl) (by kernel_rfl) (fun _ _ _ h => h) (Or.inl ⟨by rfl, ?_⟩) (by assumption) ?_
            rotate_left
            · intro w hSw
              go_simp
              try with_reducible rfl
            simp only [Act.put, List.getElem_toArray, List.getElem_cons_zero, List.getElem_cons_succ, List.setIfInBounds_toArray, List.set_cons_zero, List.set_cons_succ]
            refine wpAnyH_take (i := 14) (v := ?_) rfl (by kernel_rfl) (by kernel_rfl) (by kernel_rfl) (fun _ _ _ h => h) (Or.inl ⟨by rfl, ?_⟩) (by assumption) ?_
            rotate_left
            · intro w hSw
              go_simp
              try with_reducible rfl
            simp only [Act.put, List.getElem_toArray, List.getElem_cons_zero, List.getElem_cons_succ, List.setIfInBounds_toArray, List.set_cons_zero, List.set_cons_succ]
            refine wpAnyH_take (i := 15) (v := ?_) rfl (by kernel_rfl) (by kernel_rfl) (by kernel_rfl) (fun _ _ _ h => h) (Or.inl ⟨by rfl, ?_⟩) (by assumption) ?_
            rotate_left
            · intro w hSw
              go_simp
              try with_reducible rfl
            simp only [Act.put, List.getElem_toArray, List.getElem_cons_zero, List.getElem_cons_succ, List.setIfInBounds_toArray, List.set_cons_zero, List.set_cons_succ]
            refine wpAnyH_take (i := 16) (v := ?_) rfl (by kernel_rfl) (by kernel_rfl) (by kernel_rfl) (fun _ _ _ h => h) (Or.inl ⟨by rfl, ?_⟩) (by assumption) ?_
            rotate_left
            · intro w hSw
              go_simp
              try with_reducible rfl
            simp only [Act.put, List.getElem_toArray, List.getElem_cons_zero, List.getElem_cons_succ, List.setIfInBounds_toArray, List.set_cons_zero, List.set_cons_succ]
            refine wpAnyH_take (i := 17) (v := ?_) rfl (by kernel_rfl) (by kernel_rfl) (by kernel_rfl) (fun _ _ _ h => h) (Or.inl ⟨by rfl, ?_⟩) (by assumption) ?_
            rotate_left
            · intro w hSw
              go_simp
              try with_reducible rfl
            simp only [Act.put, List.getElem_toArray, List.getElem_cons_zero, List.getElem_cons_succ, List.setIfInBounds_toArray, List.set_cons_zero, List.set_cons_succ]
            refine wpAnyH_take (i := 18) (v := ?_) rfl (by kernel_rfl) (by kernel_rfl) (by kernel_rfl) (fun _ _ _ h => h) (Or.inl ⟨by rfl, ?_⟩) (by assumption) ?_
            rotate_left
            · intro w hSw
              go_simp
              try with_reducible rfl
            simp only [Act.put, List.getElem_toArray, List.getElem_cons_zero, List.getElem_cons_succ, List.setIfInBounds_toArray, List.set_cons_zero, List.set_cons_succ]
            refine wpAnyH_take (i := 19) (v := ?_) rfl (by kernel_rfl) (by kernel_rfl) (by kernel_rfl) (fun _ _ _ h => h) (Or.inl ⟨by rfl, ?_⟩) (by assumption) ?_
            rotate_left
            · intro w hSw
              go_simp
              try with_reducible rfl
            simp only [Act.put, List.getElem_toArray, List.getElem_cons_zero, List.getElem_cons_succ, List.setIfInBounds_toArray, List.set_cons_zero, List.set_cons_succ]
            refine wpAnyH_take (i := 20) (v := ?_) rfl (by kernel_rfl) (by kernel_rfl) (by kernel_rfl) (fun _ _ _ h => h) (Or.inl ⟨by rfl, ?_⟩) (by assumption) ?_
            rotate_left
            · intro w hSw
              go_simp
              try with_reducible rfl
            simp only [Act.put, List.getElem_toArray, List.getElem_cons_zero, List.getElem_cons_succ, List.setIfInBounds_toArray, List.set_cons_zero, List.set_cons_succ]
            refine wpAnyH_take (i := 21) (v := ?_) rfl (by kernel_rfl) (by kernel_rfl) (by kernel_rfl) (fun _ _ _ h => h) (Or.inl ⟨by rfl, ?_⟩) (by assumption) ?_
            rotate_left
            · intro w hSw
              go_simp
              try with_reducible rfl
            simp only [Act.put, List.getElem_toArray, List.getElem_cons_zero, List.getElem_cons_succ, List.setIfInBounds_toArray, List.set_cons_zero, List.set_cons_succ]
            refine wpAnyH_take (i := 22) (v := ?_) rfl (by kernel_rfl) (by kernel_rfl) (by kernel_rfl) (fun _ _ _ h => h) (Or.inl ⟨by rfl, ?_⟩) (by assumption) ?_
            rotate_left
            · intro w hSw
              go_simp
              try with_reducible rfl
            simp only [Act.put, List.getElem_toArray, List.getElem_cons_zero, List.getElem_cons_succ, List.setIfInBounds_toArray, List.set_cons_zero, List.set_cons_succ]
            refine wpAnyH_take (i := 23) (v := ?_) rfl (by kernel_rfl) (by kernel_rfl) (by kernel_rfl) (fun _ _ _ h => h) (Or.inl ⟨by rfl, ?_⟩) (by assumption) ?_
            rotate_left
            · intro w hSw
              go_simp
              try with_reducible rfl
            simp only [Act.put, List.getElem_toArray, List.getElem_cons_zero, List.getElem_cons_succ, List.setIfInBounds_toArray, List.set_cons_zero, List.set_cons_succ]
            refine wpAnyH_take (i := 24) (v := ?_) rfl (by kernel_rfl) (by kernel_rfl) (by kernel_rfl) (fun _ _ _ h => h) (Or.inl ⟨by rfl, ?_⟩) (by assumption) ?_
            rotate_left
            · intro w hSw
              go_simp
              try with_reducible rfl
            simp only [Act.put, List.getElem_toArray, List.getElem_cons_zero, List.getElem_cons_succ, List.setIfInBounds_toArray, List.set_cons_zero, List.set_cons_succ]
            refine wpAnyH_take (i := 25) (v := ?_) rfl (by kernel_rfl) (by kernel_rfl) (by kernel_rfl) (fun _ _ _ h => h) (Or.inl ⟨by rfl, ?_⟩) (by assumption) ?_
            rotate_left
            · intro w hSw
              go_simp
              try with_reducible rfl
            simp only [Act.put, List.getElem_toArray, List.getElem_cons_zero, List.getElem_cons_succ, List.setIfInBounds_toArray, List.set_cons_zero, List.set_cons_succ]
            refine wpAnyH_take (i := 26) (v := ?_) rfl (by kernel_rfl) (by kernel_rfl) (by kernel_rfl) (fun _ _ _ h => h) (Or.inl ⟨by rfl, ?_⟩) (by assumption) ?_
            rotate_left
            · intro w hSw
              go_simp
              try with_reducible rfl
            simp only [Act.put, List.getElem_toArray, List.getElem_cons_zero, List.getElem_cons_succ, List.setIfInBounds_toArray, List.set_cons_zero, List.set_cons_succ]
            refine wpAnyH_take (i := 27) (v := .agg y) rfl (by kernel_rfl) (by kernel_rfl) (by kernel_rfl) (fun _ _ _ h => h) (Or.inl ⟨by rfl, fun w hSw => exec_load_any rfl Try.underlying37 (infoSL HSX.out) _ _ _ (by rfl) (by rfl) w hSw.1⟩) (by assumption) ?_
            simp only [Act.put, List.getElem_toArray, List.getElem_cons_zero, List.getElem_cons_succ, List.setIfInBounds_toArray, List.set_cons_zero, List.set_cons_succ]
            refine wpAnyH_take (i := 29) (v := ?_) rfl (by kernel_rfl) (by kernel_rfl) (by kernel_rfl) (fun _ _ _ h => h) (Or.inl ⟨by rfl, ?_⟩) (by assumption) ?_
            rotate_left
            · intro w hSw
              go_simp
              try with_reducible rfl
            simp only [Act.put, List.getElem_toArray, List.getElem_cons_zero, List.getElem_cons_succ, List.setIfInBounds_toArray, List.set_cons_zero, List.set_cons_succ]
            refine wpAnyH_take (i := 30) (v := ?_) rfl (by kernel_rfl) (by kernel_rfl) (by kernel_rfl) (fun _ _ _ h => h) (Or.inl ⟨by rfl, ?_⟩) (by assumption) ?_
            rotate_left
            · intro w hSw
              go_simp
              try with_reducible rfl
            simp only [Act.put, List.getElem_toArray, List.getElem_cons_zero, List.getElem_cons_succ, List.setIfInBounds_toArray, List.set_cons_zero, List.set_cons_succ]
            refine wpAnyH_take (i := 31) (v := ?_) rfl (by kernel_rfl) (by kernel_rfl) (by kernel_rfl) (fun _ _ _ h => h) (Or.inl ⟨by rfl, ?_⟩) (by assumption) ?_
            rotate_left
            · intro w hSw
              go_simp
              try with_reducible rfl
            simp only [Act.put, List.getElem_toArray, List.getElem_cons_zero, List.getElem_cons_succ, List.setIfInBounds_toArray, List.set_cons_zero, List.set_cons_succ]
            refine wpAnyH_take (i := 32) (v := ?_) rfl (by kernel_rfl) (by kernel_rfl) (by kernel_rfl) (fun _ _ _ h => h) (Or.inl ⟨by rfl, ?_⟩) (by assumption) ?_
            rotate_left
            · intro w hSw
              go_simp
              try with_reducible rfl
            simp only [Act.put, List.getElem_toArray, List.getElem_cons_zero, List.getElem_cons_succ, List.setIfInBounds_toArray, List.set_cons_zero, List.set_cons_succ]
            have hdz : w4.drew.heap.size = w4.heap.size := rfl
            refine wpAnyH_ready (rs := [28]) (by kernel_rfl) (by simp) ?_
            refine AllReadyH.cons rfl (fun K hK => ?_) AllReadyH.nil
            go_simp
            refine (id_c p L y HSX.out (by omega) w4.drew w.heap.size ok1 (H14.out.move (fun _ _ _ => rfl)) (by omega)).mono ?_
            rintro _ w5 ⟨q, L', rfl, hi, h5, hb5, hfr⟩
            obtain ⟨rfl, rfl⟩ := IdR.at_ H14.out.nodup HMX.out hi
            have HB5 := Aside0.mk ((below_drew HB4.out).trans hb5)
            have hsz5 : w4.heap.size ≤ w5.heap.size := hb5.size
            have H5 := Aside0.mk h5
            have H25 : Aside0 ((Kd.int .i64).R 3 w5 w.heap.size (fun j => ok2 j ∧ j < wr.heap.size) (.slice (some ⟨g, 0, none⟩) k c4) ids) := ⟨Kd.R_step (w := w4) H24.out (fun j hj hjs => hfr j hjs (fun h => h3 j h hj.1))⟩
            have hr5 : w5.rangeAt b 0 y.toList := range_of_block hr4 (hfr b (by omega) (fun h => by have := h4 b h; omega))
            have hci5 : w5.cell? ⟨g, i, none⟩ = some (.int .i64 (m : Int)) := (World.cell?_of_block (hfr g (by omega) (fun h => h3 g h hg2))).trans hci4
            have hat5 : ∀ j v, y.toList[j]? = some v → w5.cell? ((ad.add (i * 82)).add j) = some v := fun j v hj => pw_cell_below HB5.out (HAT.out j v hj)
            have HLN : Aside0 (L'.length ≤ k) := ⟨hLn⟩
            have hnm : ¬ L'.length ≤ m := by omega
            refine hK.out _ _ ⟨hat5, hr5, hci5⟩ (fun hHeld2 => ?_)
            clear hK K hHeld hfr hi h5 hb5 hat4 hr4 hci4
            try simp only [Act.put, List.getElem_toArray, List.getElem_cons_zero, List.getElem_cons_succ, List.setIfInBounds_toArray, List.set_cons_zero, List.set_cons_succ]
            refine wpAnyH_take (i := 33) (v := ?_) rfl (by kernel_rfl) (by kernel_rfl) (by kernel_rfl) (fun _ _ _ h => h) (Or.inl ⟨by rfl, ?_⟩) (by assumption) ?_
            rotate_left
            · intro w hSw
              go_simp
              try with_reducible rfl
            simp only [Act.put, List.getElem_toArray, List.getElem_cons_zero, List.getElem_cons_succ, List.setIfInBounds_toArray, List.set_cons_zero, List.set_cons_succ]
            refine wpAnyH_take (i := 34) (v := ?_) rfl (by kernel_rfl) (by kernel_rfl) (by kernel_rfl) (fun _ _ _ h => h) (Or.inl ⟨by rfl, ?_⟩) (by assumption) ?_
            rotate_left
            · intro w hSw
              go_simp
              try with_reducible rfl
            simp only [Act.put, List.getElem_toArray, List.getElem_cons_zero, List.getElem_cons_succ, List.setIfInBounds_toArray, List.set_cons_zero, List.set_cons_succ]
            refine wpAnyH_take (i := 35) (v := ?_) rfl (by kernel_rfl) (by kernel_rfl) (by kernel_rfl) (fun _ _ _ h => h) (Or.inl ⟨by rfl, ?_⟩) (by assumption) ?_
            rotate_left
            · intro w hSw
              go_simp
              try with_reducible rfl
            simp only [Act.put, List.getElem_toArray, List.getElem_cons_zero, List.getElem_cons_succ, List.setIfInBounds_toArray, List.set_cons_zero, List.set_cons_succ]
            refine wpAnyH_take (i := 36) (v := ?_) rfl (by kernel_rfl) (by kernel_rfl) (by kernel_rfl) (fun _ _ _ h => h) (Or.inl ⟨by rfl, ?_⟩) (by assumption) ?_
            rotate_left
            · intro w hSw
              go_simp
              try with_reducible rfl
            simp only [Act.put, List.getElem_toArray, List.getElem_cons_zero, List.getElem_cons_succ, List.setIfInBounds_toArray, List.set_cons_zero, List.set_cons_succ]
            refine wpAnyH_take (i := 37) (v := ?_) rfl (by kernel_rfl) (by kernel_rfl) (by kernel_rfl) (fun _ _ _ h => h) (Or.inl ⟨by rfl, ?_⟩) (by assumption) ?_
            rotate_left
            · intro w hSw
              go_simp
              try with_reducible rfl
            simp only [Act.put, List.getElem_toArray, List.getElem_cons_zero, List.getElem_cons_succ, List.setIfInBounds_toArray, List.set_cons_zero, List.set_cons_succ]
            refine wpAnyH_take (i := 38) (v := ?_) rfl (by kernel_rfl) (by kernel_rfl) (by kernel_rfl) (fun _ _ _ h => h) (Or.inl ⟨by rfl, ?_⟩) (by assumption) ?_
            rotate_left
            · intro w hSw
              go_simp
              try with_reducible rfl
            simp only [Act.put, List.getElem_toArray, List.getElem_cons_zero, List.getElem_cons_succ, List.setIfInBounds_toArray, List.set_cons_zero, List.set_cons_succ]
            refine wpAnyH_take (i := 39) (v := ?_) rfl (by kernel_rfl) (by kernel_rfl) (by kernel_rfl) (fun _ _ _ h => h) (Or.inl ⟨by rfl, ?_⟩) (by assumption) ?_
            rotate_left
            · intro w hSw
              go_simp
              try with_reducible rfl
            simp only [Act.put, List.getElem_toArray, List.getElem_cons_zero, List.getElem_cons_succ, List.setIfInBounds_toArray, List.set_cons_zero, List.set_cons_succ]
            refine wpAnyH_take (i := 40) (v := ?_) rfl (by kernel_rfl) (by kernel_rfl) (by kernel_rfl) (fun _ _ _ h => h) (Or.inl ⟨by rfl, ?_⟩) (by assumption) ?_
            rotate_left
            · intro w hSw
              go_simp
              try with_reducible rfl
            simp only [Act.put, List.getElem_toArray, List.getElem_cons_zero, List.getElem_cons_succ, List.setIfInBounds_toArray, List.set_cons_zero, List.set_cons_succ]
            refine wpAnyH_take (i := 41) (v := ?_) rfl (by kernel_rfl) (by kernel_rfl) (by kernel_rfl) (fun _ _ _ h => h) (Or.inl ⟨by rfl, ?_⟩) (by assumption) ?_
            rotate_left
            · intro w hSw
              go_simp
              try with_reducible rfl
            simp only [Act.put, List.getElem_toArray, List.getElem_cons_zero, List.getElem_cons_succ, List.setIfInBounds_toArray, List.set_cons_zero, List.set_cons_succ]
            refine wpAnyH_take (i := 42) (v := ?_) rfl (by kernel_rfl) (by kernel_rfl) (by kernel_rfl) (fun _ _ _ h => h) (Or.inl ⟨by rfl, ?_⟩) (by assumption) ?_
            rotate_left
            · intro w hSw
              go_simp
              try with_reducible rfl
            simp only [Act.put, List.getElem_toArray, List.getElem_cons_zero, List.getElem_cons_succ, List.setIfInBounds_toArray, List.set_cons_zero, List.set_cons_succ]
            refine wpAnyH_take (i := 43) (v := ?_) rfl (by kernel_rfl) (by kernel_rfl) (by kernel_rfl) (fun _ _ _ h => h) (Or.inl ⟨by rfl, ?_⟩) (by assumption) ?_
            rotate_left
            · intro w hSw
              go_simp
              try with_reducible rfl
            simp only [Act.put, List.getElem_toArray, List.getElem_cons_zero, List.getElem_cons_succ, List.setIfInBounds_toArray, List.set_cons_zero, List.set_cons_succ]
            refine wpAnyH_take (i := 44) (v := ?_) rfl (by kernel_rfl) (by kernel_rfl) (by kernel_rfl) (fun _ _ _ h => h) (Or.inl ⟨by rfl, ?_⟩) (by assumption) ?_
            rotate_left
            · intro w hSw
              go_simp
              try with_reducible rfl
            simp only [Act.put, List.getElem_toArray, List.getElem_cons_zero, List.getElem_cons_succ, List.setIfInBounds_toArray, List.set_cons_zero, List.set_cons_succ]
            refine wpAnyH_take (i := 45) (v := ?_) rfl (by kernel_rfl) (by kernel_rfl) (by kernel_rfl) (fun _ _ _ h => h) (Or.inl ⟨by rfl, ?_⟩) (by assumption) ?_
            rotate_left
            · intro w hSw
              go_simp
              try with_reducible rfl
            simp only [Act.put, List.getElem_toArray, List.getElem_cons_zero, List.getElem_cons_succ, List.setIfInBounds_toArray, List.set_cons_zero, List.set_cons_succ]
            refine wpAnyH_take (i := 46) (v := ?_) rfl (by kernel_rfl) (by kernel_rfl) (by kernel_rfl) (fun _ _ _ h => h) (Or.inl ⟨by rfl, ?_⟩) (by assumption) ?_
            rotate_left
            · intro w hSw
              go_simp
              try with_reducible rfl
            simp only [Act.put, List.getElem_toArray, List.getElem_cons_zero, List.getElem_cons_succ, List.setIfInBounds_toArray, List.set_cons_zero, List.set_cons_succ]
            refine wpAnyH_take (i := 47) (v := ?_) rfl (by kernel_rfl) (by kernel_rfl) (by kernel_rfl) (fun _ _ _ h => h) (Or.inl ⟨by rfl, ?_⟩) (by assumption) ?_
            rotate_left
            · intro w hSw
              go_simp
              try with_reducible rfl
            simp only [Act.put, List.getElem_toArray, List.getElem_cons_zero, List.getElem_cons_succ, List.setIfInBounds_toArray, List.set_cons_zero, List.set_cons_succ]
            refine wpAnyH_ready (rs := [48]) (by kernel_rfl) (by simp) ?_
            refine AllReadyH.cons rfl (fun K hK => ?_) AllReadyH.nil
            go_simp
            refine (len_c p L' w5 w.heap.size _ H5.out).mono ?_
            rintro _ w6 ⟨rfl, h6⟩
            rw [h6]
            clear h6 w6
            refine hK.out _ _ ⟨hat5, hr5, hci5⟩ (fun hHeld3 => ?_)
            clear hK K hHeld2
            try simp only [Act.put, List.getElem_toArray, List.getElem_cons_zero, List.getElem_cons_succ, List.setIfInBounds_toArray, List.set_cons_zero, List.set_cons_succ]
            refine wpAnyH_take (i := 49) (v := ?_) rfl (by kernel_rfl) (by kernel_rfl) (by kernel_rfl) (fun _ _ _ h => h) (Or.inl ⟨by rfl, ?_⟩) (by assumption) ?_
            rotate_left
            · intro w hSw
              go_simp
              try with_reducible rfl
            simp only [Act.put, List.getElem_toArray, List.getElem_cons_zero, List.getElem_cons_succ, List.setIfInBounds_toArray, List.set_cons_zero, List.set_cons_succ]
            refine wpAnyH_take (i := 50) (v := ?_) rfl (by kernel_rfl) (by kernel_rfl) (by kernel_rfl) (fun _ _ _ h => h) (Or.inl ⟨by rfl, ?_⟩) (by assumption) ?_
            rotate_left
            · intro w hSw
              go_simp
              try with_reducible rfl
            simp only [Act.put, List.getElem_toArray, List.getElem_cons_zero, List.getElem_cons_succ, List.setIfInBounds_toArray, List.set_cons_zero, List.set_cons_succ]
            refine wpAnyH_done (by kernel_rfl) ?_ _
            refine NoPanic.normal ?_
            clear hr5 hHeld3 hix
            go_upto_block 4 with (fail)
            go_wp2_with (fail)
            go_loopg [11] i (fun gq v11 wq => ∃ (j z : Nat), v11 = .int .i64 (j : Int) ∧ wq = w5.drewN z ∧ Aside0 (j + gq = i))
            case atStart => exact ⟨0, 0, rfl, rfl, ⟨by omega⟩⟩
            case round =>
              obtain ⟨j, z, rfl, rfl, HJ⟩ := hrel
              by_cases hji : j < i
              · obtain ⟨gq, rfl⟩ : ∃ gq, gk = gq + 1 := ⟨gk - 1, by have := HJ.out; omega⟩
                obtain ⟨idj, hidj⟩ : ∃ q, ids[j]? = some q := ⟨_, List.getElem?_eq_getElem (by omega)⟩
                obtain ⟨m', x', rfl, hx', hmx'⟩ := HT.out j idj hidj
                obtain ⟨hsx', hat'⟩ := state_at HR.out hx'
                obtain ⟨g', hg', -, -, hids⟩ := id_at H25.out (by omega)
                injection hg' with hg'
                injection hg' with hg'
                subst hg'
                have hcj : w5.cell? ⟨g, j, none⟩ = some (.int .i64 (m' : Int)) := hids j _ hidj
                have hatj : ∀ q v, x'.toList[q]? = some v → w5.cell? ((ad.add (j * 82)).add q) = some v := fun q v hq => pw_cell_below HB5.out (hat' q v hq)
                have HSX' := Aside0.mk hsx'
                have j0 : (0 : Int) ≤ (j : Int) := by omega
                have j1 : (j : Int) < (ids.length : Int) := by omega
                have j2 : (j : Int) < (k : Int) := by omega
                have j3 : decide ((j : Int) < (i : Int)) = true := decide_eq_true (by omega)
                clear hidj hx' hsx' hat' hids
                by_cases hmm : m' = m
                · subst hmm
                  have hxy : x' = y := Option.some.inj (hmx'.symm.trans HMX.out)
                  subst hxy
                  clear hmx'
                  go_upto_region 19 with (fail)
                  refine wp_region_quiet_lit (by kernel_rfl) (by kernel_rfl) ?_
                  iterate 12 (quiet_step (fail))
                  refine wpQuiet_step (fun K hK => ?_)
                  refine quiet_run (.agg x') (by rintro w' ⟨q, rfl⟩; exact exec_load_any rfl Try.underlying37 (infoSL HSX'.out) _ _ _ (by rfl) (by rfl) _ hatj) (by go_simp) ?_
                  refine hK _ ?_
                  clear hK K
                  iterate 3 (quiet_step (fail))
                  refine wpQuiet_step (fun K hK => ?_)
                  refine quiet_run (.agg x') (by rintro w' ⟨q, rfl⟩; exact exec_load_any rfl Try.underlying37 (infoSL HSX.out) _ _ _ (by rfl) (by rfl) _ hat5) (by go_simp) ?_
                  refine hK _ ?_
                  clear hK K
                  refine wpQuiet_step (fun K hK => ?_)
                  refine quiet_run (.bool true) (fun w' _ => exec_eq_self HSX.out _ _ _ _ _ (by rfl) (by rfl) (by rfl) _) (by go_simp) ?_
                  refine hK _ ?_
                  clear hK K
                  repeat (quiet_step (fail))
                  refine wpQuiet_nil ?_
                  intro _ hw'
                  obtain ⟨nq, hw''⟩ := hw'
                  subst hw''
                  go_wp2_with (fail)
                  go_roundg gq
                  case measure => exact Nat.lt_succ_self _
                  case rel => exact ⟨j + 1, z + nq, by simp, by first | rfl | rw [World.drewN_drewN], ⟨by have := HJ.out; omega⟩⟩
                · have hxy : x' ≠ y := fun e => hmm (by
                    have := (List.getElem?_inj (List.getElem?_eq_some_iff.1 hmx').1 H14.out.nodup).1 (hmx'.trans (by rw [e]; exact HMX.out.symm))
                    exact this)
                  have hmb : ((m' : Int) == (m : Int)) = false := beq_eq_false_iff_ne.mpr (by omega)
                  have HXY := Aside0.mk hxy
                  clear hmx' hxy
                  go_upto_region 19 with (fail)
                  refine wp_region_quiet_lit (by kernel_rfl) (by kernel_rfl) ?_
                  iterate 12 (quiet_step (fail))
                  refine wpQuiet_step (fun K hK => ?_)
                  refine quiet_run (.agg x') (by rintro w' ⟨q, rfl⟩; exact exec_load_any rfl Try.underlying37 (infoSL HSX'.out) _ _ _ (by rfl) (by rfl) _ hatj) (by go_simp) ?_
                  refine hK _ ?_
                  clear hK K
                  iterate 3 (quiet_step (fail))
                  refine wpQuiet_step (fun K hK => ?_)
                  refine quiet_run (.agg y) (by rintro w' ⟨q, rfl⟩; exact exec_load_any rfl Try.underlying37 (infoSL HSX.out) _ _ _ (by rfl) (by rfl) _ hat5) (by go_simp) ?_
                  refine hK _ ?_
                  clear hK K
                  refine wpQuiet_step (fun K hK => ?_)
                  refine quiet_run (.bool false) (fun w' _ => exec_eq_other HSX'.out HSX.out HXY.out _ _ _ _ _ (by rfl) (by rfl) (by rfl) _) (by go_simp) ?_
                  refine hK _ ?_
                  clear hK K
                  repeat (quiet_step (fail))
                  refine wpQuiet_nil ?_
                  intro _ hw'
                  obtain ⟨nq, hw''⟩ := hw'
                  subst hw''
                  go_wp2_with (fail)
                  go_roundg gq
                  case measure => exact Nat.lt_succ_self _
                  case rel => exact ⟨j + 1, z + nq, by simp, by first | rfl | rw [World.drewN_drewN], ⟨by have := HJ.out; omega⟩⟩
              · have j3 : decide ((j : Int) < (i : Int)) = false := decide_eq_false (by omega)
                have hHE : Aside0 (Held w5 w.heap.size p L' (.slice (some ⟨g, 0, none⟩) k c4) ids) := ⟨⟨_, _, H5.out.bound, H25.out, fun q hq hq' => by rcases hq.1 with h | h; exact h3 q h hq'.1; have := hq'.2; omega, fun q hq => hq.2⟩⟩
                clear HJ
                go_wp2_with (fail)
                go_roundg gn
                case measure => exact Nat.lt_succ_self _
                case rel => exact ⟨i + 1, by simp, ⟨hHE.out.below (pw_below_drewN (Below.refl _ _) _)⟩, ⟨pw_below_drewN HB5.out _⟩, ⟨by have := HK.out; omega⟩⟩
          · have hik : ¬ i < k := hin
            obtain ⟨ok1, ok2, h1, h2, h3, h4⟩ := HBO.out.out
            have H1 := Aside0.mk h1
            clear h1 h2 h4 HBO HK
            have hfin0 := HB.out.size
            by_cases hk0 : k = 0
            · have hL0 : L.length = 0 := by omega
              have hkz : ((k : Int) == 0) = true := beq_iff_eq.mpr (by omega)
              have hle : decide ((L.length : Int) ≤ (k : Int)) = true := decide_eq_true (by omega)
              go_wp2_with (first
                | (refine (len_c p L _ w.heap.size ok1 H1.out).mono ?_; rintro _ w6 ⟨rfl, h6⟩; rw [h6]; clear h6 w6)
                | (refine (wakes_c _).mono ?_))
              rintro _ w7 ⟨rfl, hb⟩
              have hfin := Aside0.mk (HB.out.trans (hb.mono hfin0))
              clear hb
              go_wp2_with (fail)
              go_ret
              exact ⟨rfl, hfin.out⟩
            · have hL0 : 0 < L.length := by omega
              have hkz : ((k : Int) == 0) = false := beq_eq_false_iff_ne.mpr (by omega)
              go_wp2_with (first
                | (refine (len_c p L _ w.heap.size ok1 H1.out).mono ?_; rintro _ w6 ⟨rfl, h6⟩; rw [h6]; clear h6 w6)
                | (refine (wakes_c _).mono ?_))
              rintro _ w7 ⟨rfl, hb⟩
              have hfin := Aside0.mk (HB.out.trans (hb.mono hfin0))
              clear hb
              go_wp2_with (fail)
              go_ret
              exact ⟨rfl, hfin.out⟩
end Go.Proofs.Ytbmjeopnahmbgaa.In
