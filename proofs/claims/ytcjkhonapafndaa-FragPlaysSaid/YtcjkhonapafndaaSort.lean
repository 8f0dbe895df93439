/- Proved: the library's sort of a row of spans, by the shelf's contract. Conditions: the row is the call's own. -/
import Derived.Test.YtcjkhonapafndaaSrt
import Derived.Test.YtcjkhonapafndaaLay
set_option linter.unusedVariables false
set_option linter.unusedSimpArgs false
namespace Go.Proofs.Ytcjkhonapafndaa
open Go.RowKit Go.Shelf Go.Sort

abbrev Mt := List (Int × Int)
def SortsSp : Prop := ∀ (A : Option Addr) (n c base : Nat) (S : List (Int × Int)) (w : World), Tm 89 w base A n c S → n ≤ 100000 → Calls Try.prog 64 #[.slice A n c, .func (.func 65) #[] #[]] w fun e w' =>
  e = .returned (.tuple #[]) ∧ ∃ S', S'.Perm S ∧ S'.Pairwise (fun x y => cmpS x y ≤ 0) ∧ Tm 89 w' base A n c S' ∧ w.grownBy w' (blk A)
theorem lt_cmpS (x y : Int × Int) : ltOf cmpS x y = decide (x.1 < y.1) := by
  unfold ltOf cmpS cmpI
  rw [decide_eq_decide]
  repeat' split
  all_goals omega
theorem swo_cmpS : SWO (ltOf cmpS) where
  irrefl x := by rw [lt_cmpS]; simp
  trans x y z h1 h2 := by rw [lt_cmpS] at *; simp only [decide_eq_true_eq] at *; omega
  ntrans x y z h1 h2 := by rw [lt_cmpS] at *; simp only [decide_eq_false_iff_not] at *; omega
theorem cmpLays_tm (g off size : Nat) (w : World) : CmpLays Try.prog 65 #[] tmC 2 cmpS g off size w :=
  fun m os dk _ x y => (lay1_any x y _).mono fun e w' ⟨h1, h2⟩ => ⟨h1, 0, #[.cells #[.int .i64 x.1, .int .i64 x.2] 89, .cells #[.int .i64 y.1, .int .i64 y.2] 89], by
    rw [h2, alloc_eq_grow, alloc_eq_grow, grow_grow]
    rfl⟩
theorem flat_tm (d : Array (Int × Int)) : (flatK tmC 2 d).toList = tmsC d.toList := by
  refine List.ext_getElem? fun k => ?_
  have hl : (flatK tmC 2 d).size = d.size * 2 := size_flatK _ _ _
  rcases Nat.lt_or_ge k (d.size * 2) with hk | hk
  · have hj : k / 2 < d.size := by omega
    have hg := get_flatK tmC 2 d k hk
    have h1 : (flatK tmC 2 d).toList[k]? = some (tmC d[k / 2]!)[k % 2]! := by
      rw [Array.getElem?_toList, Array.getElem?_eq_getElem (by rw [hl]; exact hk), ← hg, getElem!_pos (flatK tmC 2 d) k (by rw [hl]; exact hk)]
    have h2 : d.toList[k / 2]? = some d[k / 2]! := by
      rw [Array.getElem?_toList, Array.getElem?_eq_getElem hj, getElem!_pos d (k / 2) hj]
    obtain ⟨e0, e1⟩ := tmsC_get _ _ _ h2
    rw [h1]
    rcases (by omega : k % 2 = 0 ∨ k % 2 = 1) with e | e
    · rw [e, show k = k / 2 * 2 by omega, show k / 2 * 2 / 2 = k / 2 by omega, e0]
      rfl
    · rw [e, show k = k / 2 * 2 + 1 by omega, show (k / 2 * 2 + 1) / 2 = k / 2 by omega, e1]
      rfl
  · rw [List.getElem?_eq_none (by rw [Array.length_toList, hl]; exact hk), List.getElem?_eq_none (by rw [tmsC_len, Array.length_toList]; exact hk)]
theorem holds_tm {w : World} {base g n c : Nat} {S : Mt} (h : Tm 89 w base (some ⟨g, 0, none⟩) n c S) : HoldsK tmC 2 w g 0 S.toArray := by
  intro j hj
  rcases h.cases_ with ⟨e, _⟩ | ⟨g', cur, e, _, hh, hnc, hcm, hcs, ht⟩
  · cases e
  injection e with e
  injection e with e
  subst e
  have hfl := flat_tm S.toArray
  have hsz : (flatK tmC 2 S.toArray).size = S.length * 2 := by rw [size_flatK]; simp
  rw [hsz] at hj
  have hln := h.len
  refine ⟨?_, by simp [World.frozen?, hh]⟩
  rw [cell_of_row w g (0 + j) cur _ (0, 0) hh, Nat.zero_add]
  have h1 : (tmsC S)[j]? = some (flatK tmC 2 S.toArray)[j]! := by
    have : (flatK tmC 2 S.toArray).toList[j]? = some (flatK tmC 2 S.toArray)[j]! := by
      rw [Array.getElem?_toList, Array.getElem?_eq_getElem (by rw [hsz]; exact hj), getElem!_pos (flatK tmC 2 S.toArray) j (by rw [hsz]; exact hj)]
    rw [hfl] at this
    simpa using this
  rw [← ht, List.getElem?_take, if_pos (by omega)] at h1
  simpa using h1
theorem sorts_sp : SortsSp := by
  intro A n c base S w hT hn
  rcases hT.cases_ with ⟨rfl, rfl, rfl, rfl⟩ | ⟨g, cur, rfl, hb, hh, hnc, hcm, hcs, ht⟩
  · have h := AnyF.slices_SortFunc_none sortSp none 0 (.func (.func 65) #[] #[]) w
    change Calls Try.prog 64 _ _ _ at h
    exact h.mono fun e w' ⟨h1, h2⟩ => by
      subst h2
      exact ⟨h1, [], List.Perm.refl _, List.Pairwise.nil, Tm.none_ _ _ _, World.grownBy.refl _ _⟩
  · have hln := hT.len
    have hgl := (Array.getElem?_eq_some_iff.1 hh).1
    have eg : ∀ args w, (callFunc 65 args).run Try.prog w = .ok (.enter 65 args) w := enters_of Try.func65 (by kernel_rfl) rfl
    have h := AnyQ.slices_SortFunc sortSp 2 Try.isAgg89 Try.sizeOf89 tmC (fun _ => rfl) (fun x v hv => by simp [tmC] at hv; rcases hv with rfl | rfl <;> rfl) cmpS swo_cmpS 65 #[] g 0 c S.toArray w eg (cmpLays_tm g 0 _ w) (holds_tm hT) hgl (by simp; omega)
    change Calls Try.prog 64 _ _ _ at h
    rw [show S.toArray.size = n by simpa using hln] at h
    refine h.mono fun e w' ⟨h1, d', m, os, hp, hs, hw⟩ => ⟨h1, d'.toList, ?_, ?_, ?_, ?_⟩
    · have h2 := hp.2.2
      have hds : d'.size = n := by have h : d'.size = S.toArray.size := hp.1; rw [h]; simpa using hln
      have e1 : d'.extract 0 n = d' := by rw [← hds]; simp
      have e2 : S.toArray.extract 0 n = S.toArray := by rw [← hln]; simp
      rw [e1, e2] at h2
      exact h2
    · have hds : d'.size = n := by have h : d'.size = S.toArray.size := hp.1; rw [h]; simpa using hln
      rw [List.pairwise_iff_getElem]
      intro i j hi hj hij
      rw [Array.length_toList] at hi hj
      have := hs i j (Nat.zero_le _) hij (by omega)
      rw [getElem!_pos d' i hi, getElem!_pos d' j hj, lt_cmpS] at this
      simp only [decide_eq_false_iff_not] at this
      simp only [Array.getElem_toList]
      unfold cmpS cmpI
      repeat' split
      all_goals omega
    · have hds : d'.size = n := by have h : d'.size = S.toArray.size := hp.1; rw [h]; simpa using hln
      have hhe : w'.heap[g]? = some (.cells (putCells id 0 (flatK tmC 2 d') cur) 89 (0, 0)) := by
        rw [hw]
        unfold sortWorldK
        rw [heap_grow_old _ _ (by rw [size_putRowK]; exact hgl)]
        show ((Sort.ahead w m).heap.modify g _)[g]? = _
        rw [Array.getElem?_modify, if_pos rfl]
        show Option.map _ (w.heap[g]?) = _
        rw [hh]
        rfl
      have hfs : (flatK tmC 2 d').size = n * 2 := by rw [size_flatK, hds]
      refine ⟨by rw [tmsC_len, Array.length_toList, hds], .inr ⟨g, c, _, rfl, hb, hhe, hnc, hcm, by unfold putCells; rw [Array.size_mapIdx]; exact hcs, ?_⟩⟩
      rw [← flat_tm]
      refine List.ext_getElem? fun k => ?_
      rw [List.getElem?_take]
      split
      · rename_i hk
        rw [Array.getElem?_toList, Array.getElem?_toList]
        unfold putCells
        rw [Array.getElem?_mapIdx, Array.getElem?_eq_getElem (show k < cur.size by omega), Array.getElem?_eq_getElem (show k < (flatK tmC 2 d').size by omega)]
        rw [Option.map_some, if_pos (by omega), Nat.sub_zero, getElem!_pos (flatK tmC 2 d') k (show k < (flatK tmC 2 d').size by omega)]
        rfl
      · rename_i hk
        rw [List.getElem?_eq_none (by rw [Array.length_toList, hfs]; omega)]
    · rw [hw]
      refine ⟨rfl, rfl, rfl, ?_, fun b hl hne => ?_⟩
      · unfold sortWorldK
        rw [size_grow, size_putRowK]
        exact Nat.le_add_right _ _
      · unfold sortWorldK
        rw [heap_grow_old _ _ (by rw [size_putRowK]; exact hl)]
        show ((Sort.ahead w m).heap.modify g _)[b]? = _
        rw [Array.getElem?_modify, if_neg (fun e => hne (by rw [e]; rfl))]
        rfl
end Go.Proofs.Ytcjkhonapafndaa
