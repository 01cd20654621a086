/- The row of pairs, sorted: what is known behind. -/
import Derived.Test.YtjfpkldknchnkaaSo
import Derived.Shelf.SlSortCmp.NoneTotal
namespace Go.Proofs.Ytjfpkldknchnkaa.Me
open Go.RowKit Go.Shelf Go.Proofs.YtjfpkldknchnkaaW.PrintWords Go.Proofs.YtjfpkldknchnkaaW.PrintLast Go.Proofs.YtjfpkldknchnkaaW.PrintMore
set_option linter.unusedVariables false
set_option linter.unusedSimpArgs false
/-- Their places rise. -/
def Srt (l : List Pr) : Prop := l.Pairwise fun x y => x.a ≤ y.a
def kV : Kd Pr := flat 3 enc3 (fun _ => rfl) (fun x u hu => by simp [enc3] at hu; rcases hu with rfl | rfl | rfl <;> rfl)
theorem formV {w : World} {ok : Nat → Prop} {v : Value} {xs : List Pr} (h : kV.R 39 w 0 ok v xs) (h1 : 1 ≤ xs.length) : ∃ g cap, v = .slice (some ⟨g, 0, none⟩) xs.length cap ∧ xs.length ≤ cap := by
  obtain ⟨_, inner, hown, _⟩ := h
  rcases hown.2 with ⟨_, h2⟩ | ⟨g, cap, cur, h2, _, _, h3, _⟩
  · omega
  · exact ⟨g, cap, h2, h3⟩
theorem atV {w : World} {ok : Nat → Prop} {g n cap : Nat} {xs : List Pr} (h : kV.R 39 w 0 ok (.slice (some ⟨g, 0, none⟩) n cap) xs) {i : Nat} {y : Pr} (hy : xs[i]? = some y) : ∀ j u, (enc3 y)[j]? = some u → w.cell? ⟨g, i * 3 + j, none⟩ = some u := by
  have hc := (Kd.R_reads' h).2.2
  have hil := (List.getElem?_eq_some_iff.1 hy).1
  obtain ⟨ad, hA, hr⟩ := hc.2.2 (by omega)
  injection hA with hA
  subst hA
  obtain ⟨c, _, hk, hcell⟩ := hr i y hy
  intro j u hu
  have h := hcell j u (by rw [show c = enc3 y from hk]; exact hu)
  rw [add_plain] at h
  exact h
/-- What the sort leaves behind. -/
def SortP (w : World) (A : Option Addr) (n : Nat) (E : List Pr) (e : Ending) (w' : World) : Prop :=
  e = .returned (.tuple #[]) ∧ ∃ E', E'.Perm E ∧ Srt E' ∧ ReadsRow RPr 3 w' A n E' ∧ w.grownBy w' (A.map (·.block)) ∧ (∀ g, A = some ⟨g, 0, none⟩ → ∃ cs, w'.heap[g]? = some (.cells cs 39 (0, 0)))
theorem perm_of {E : List Pr} {d : Array Pr} (h : Go.Sort.PermIn 0 E.toArray.size E.toArray d) : d.toList.Perm E := by
  obtain ⟨h1, _, h3⟩ := h
  have e1 : d.extract 0 E.toArray.size = d := by rw [← h1]; simp
  have e2 : E.toArray.extract 0 E.toArray.size = E.toArray := by simp
  rw [e1, e2] at h3
  simpa using h3
theorem srt_of {E : List Pr} {d : Array Pr} (hs : d.size = E.toArray.size) (h : Go.Sort.SortedIn (ltOf fun x y : Pr => cmpI x.a y.a) 0 E.toArray.size d) : Srt d.toList := by
  unfold Srt
  rw [List.pairwise_iff_getElem]
  intro i j hi hj hij
  have h1 := h i j (Nat.zero_le _) hij (by rw [← hs]; simpa using hj)
  rw [ltPr, decide_eq_false_iff_not] at h1
  simp only [Array.length_toList] at hi hj
  rw [getElem!_pos d j hj, getElem!_pos d i hi] at h1
  simp only [Array.getElem_toList]
  omega
theorem grown_sort (w : World) (g n : Nat) (d : Array Pr) (os : Array Obj) : w.grownBy (sortWorldK enc3 3 w g 0 n d os) (some g) := by
  refine ⟨rfl, rfl, rfl, ?_, fun k hk hne => ?_⟩
  · unfold sortWorldK
    rw [Go.Sort.size_grow]
    simp [Go.Sort.putRowK, Go.Sort.putRow, Go.Sort.mapBlock, Go.Sort.ahead]
  · unfold sortWorldK
    have hkg : g ≠ k := fun e => hne (by rw [e])
    rw [Go.Sort.heap_grow_old _ _ (by simpa [Go.Sort.putRowK, Go.Sort.putRow, Go.Sort.mapBlock, Go.Sort.ahead] using hk)]
    simp [Go.Sort.putRowK, Go.Sort.putRow, Go.Sort.mapBlock, Go.Sort.ahead, Array.getElem?_modify, hkg]
theorem sort_c (A : Option Addr) (n c : Nat) (E : List Pr) (w : World) (ok : Nat → Prop) (h : kV.R 39 w 0 ok (.slice A n c) E) (hn : n ≤ 100000000) :
    Calls Try.prog 27 #[.slice A n c, .func (.func 28) #[] #[]] w fun e w' => SortP w A n E e w' := by
  have hnE := (Kd.R_reads' h).1
  rcases Nat.eq_zero_or_pos n with h0 | hp
  · subst h0
    have hE : E = [] := List.length_eq_zero_iff.1 hnE.symm
    subst hE
    refine (AnyF.slices_SortFunc_none (P := Try.prog) (ρ := sortEnd_ren) { sortEnd with } A c (.func (.func 28) #[] #[]) w).mono ?_
    rintro e w' ⟨rfl, rfl⟩
    refine ⟨rfl, [], List.Perm.refl _, List.Pairwise.nil, ⟨rfl, by omega, fun hp => by simp at hp⟩, ⟨rfl, rfl, rfl, Nat.le_refl _, fun _ _ _ => rfl⟩, fun g hg => ?_⟩
    subst hg
    obtain ⟨_, _, _, q, hq, cs, hcs⟩ := (Kd.R_bound h).1 g rfl
    rcases List.mem_cons.1 hq with e | e
    · exact ⟨cs, by rw [← e]; exact hcs⟩
    · cases e
  · obtain ⟨g, cap, hv, hcap⟩ := formV h (by omega)
    injection hv with hv1 hv2 hv3
    subst hv1
    obtain ⟨_, _, hlt, q, hq, cs, hcs⟩ := (Kd.R_bound h).1 g rfl
    have hcs : w.heap[g]? = some (.cells cs 39 (0, 0)) := by
      rcases List.mem_cons.1 hq with e | e
      · rw [← e]; exact hcs
      · cases e
    have hH : Go.Sort.HoldsK enc3 3 w g 0 E.toArray := by
      intro t ht
      rw [Go.Sort.size_flatK] at ht
      rw [Go.Sort.get_flatK enc3 3 E.toArray t ht]
      have hd : t / 3 < E.length := by
        have : E.toArray.size = E.length := rfl
        rw [this] at ht
        omega
      refine ⟨?_, blk_frozen hcs _⟩
      have hy : E[t / 3]? = some E[t / 3] := List.getElem?_eq_getElem hd
      have he : E.toArray[t / 3]! = E[t / 3] := by
        rw [getElem!_pos E.toArray (t / 3) (by simpa using hd)]
        simp
      rw [he]
      have hm : t % 3 < 3 := Nat.mod_lt _ (by decide)
      have hu : (enc3 E[t / 3])[t % 3]? = some ((enc3 E[t / 3])[t % 3]!) := by
        rw [List.getElem?_eq_getElem (by simpa [enc3] using hm), getElem!_pos (enc3 E[t / 3]) (t % 3) (by simpa [enc3] using hm)]
      have := atV h hy (t % 3) _ hu
      rw [show 0 + t = t / 3 * 3 + t % 3 from by omega]
      exact this
    have hn2 : E.toArray.size = n := by simpa using hnE.symm
    have hc := sortSome_c g c E.toArray w hH hlt (by omega)
    rw [hn2] at hc
    refine hc.mono ?_
    rintro e w' ⟨rfl, d', n0, os, hp1, hs1, rfl⟩
    rw [← hn2] at hp1 hs1
    have hsz : d'.size = E.toArray.size := hp1.1
    have hHd : Go.Sort.HoldsK enc3 3 (sortWorldK enc3 3 w g 0 n0 d' os) g 0 d' := by
      unfold sortWorldK
      refine Go.Sort.holdsK_grow enc3 3 _ os g 0 d' ?_ ?_
      · simpa [Go.Sort.putRowK, Go.Sort.putRow, Go.Sort.mapBlock, Go.Sort.ahead] using hlt
      · exact Go.Sort.holdsK_putRowK enc3 3 _ g 0 E.toArray d' (Go.Sort.holdsK_ahead enc3 3 w n0 g 0 E.toArray hH) hsz
    refine ⟨rfl, d'.toList, perm_of hp1, srt_of hsz hs1, ⟨by simp [hsz]; omega, by omega, fun _ => ⟨⟨g, 0, none⟩, rfl, fun k a ha => ⟨enc3 a, rfl, rfl, fun j u hu => ?_⟩⟩⟩, grown_sort _ _ _ _ _, fun g' hg' => ?_⟩
    · have hk : k < d'.size := by simpa using (List.getElem?_eq_some_iff.1 ha).1
      have hj : j < 3 := by simpa [enc3] using (List.getElem?_eq_some_iff.1 hu).1
      have hcell := (hHd.cell (i := k) (c := j) hk hj).1
      have ha2 : d'[k]! = a := by
        rw [getElem!_pos d' k hk]
        simpa using (List.getElem?_eq_some_iff.1 ha).2
      rw [ha2] at hcell
      have hu2 : (enc3 a)[j]! = u := by
        obtain ⟨h1, h2⟩ := List.getElem?_eq_some_iff.1 hu
        rw [getElem!_pos (enc3 a) j h1]
        exact h2
      rw [hu2] at hcell
      rw [add_plain]
      rw [Nat.zero_add] at hcell
      exact hcell
    · injection hg' with hg'
      injection hg' with hg'
      subst hg'
      unfold sortWorldK
      rw [Go.Sort.heap_grow_old _ _ (by simpa [Go.Sort.putRowK, Go.Sort.putRow, Go.Sort.mapBlock, Go.Sort.ahead] using hlt)]
      have hcs2 : (Go.Sort.ahead w n0).heap[g]? = some (.cells cs 39 (0, 0)) := hcs
      simp [Go.Sort.putRowK, Go.Sort.putRow, Go.Sort.mapBlock, Array.getElem?_modify, hcs2]
      exact ⟨_, _, hcs, rfl⟩
end Go.Proofs.Ytjfpkldknchnkaa.Me
