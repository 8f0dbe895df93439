/- Proved: the laws' helper known of package wharflaw7 says yes. Conditions: none. -/
import Derived.Test.YtcjkhonapafndaaHelp
set_option linter.unusedVariables false
set_option linter.unusedSimpArgs false
namespace Go.Proofs.Ytcjkhonapafndaa
open Go.RowKit

theorem zmk100 (W : World) : (Instr.makeSlice 24 (.int .i64 100) (.int .i64 100)).run Try.prog W = .ok (.slice (some ⟨W.heap.size, 0, none⟩) 100 100) (W.alloc (.cells (zArr 100) 5)) := by kernel_rfl
def pk0 : PkV := ⟨0, 0, false, false, 0, 0, 0, 0, 0⟩
theorem pk0_ok : pk0.Ok := ⟨by decide, by decide, by decide, by decide, by decide, by decide, by decide⟩
theorem split0 : splitP pk0 68 [] (List.replicate 100 0) = [(piece pk0 true 0, [], List.replicate 48 0), (piece pk0 true 48, [], List.replicate 48 0), (piece pk0 false 96, [], List.replicate 4 0)] := by kernel_rfl
theorem err0 {k : Int} (h : errIs pk0 [] 100 k) : k = 0 := by
  refine errIs_one h ?_
  unfold errIs
  exact .inr (.inr (.inr ⟨⟨by decide, by decide, by decide, by decide, by decide, by decide⟩, by decide, by decide +kernel, ⟨by decide +kernel, by decide +kernel⟩, rfl⟩))
theorem spl0 {k : Int} {R : List Pc} (h : splIs pk0 [] (List.replicate 100 0) 68 k R) : k = 0 ∧ R = [(piece pk0 true 0, [], List.replicate 48 0), (piece pk0 true 48, [], List.replicate 48 0), (piece pk0 false 96, [], List.replicate 4 0)] := by
  rcases h with ⟨h1, _⟩ | ⟨_, _, ⟨h1, h2, _⟩ | ⟨_, _, h1, _⟩ | ⟨_, _, h1, h2⟩⟩
  · omega
  · exact absurd (err0 (by simpa using h1)) h2
  · cases h1
  · exact ⟨h1, by rw [h2]; exact split0⟩
theorem three {L : List Pm} {a b c : Pc} (h : L.map Pm.plain = [a, b, c]) : ∃ x0 x1 x2, L = [x0, x1, x2] := by
  rcases L with _ | ⟨x0, _ | ⟨x1, _ | ⟨x2, _ | ⟨x3, r⟩⟩⟩⟩
  · cases congrArg List.length h
  · cases congrArg List.length h
  · cases congrArg List.length h
  · exact ⟨x0, x1, x2, rfl⟩
  · cases congrArg List.length h
set_option maxHeartbeats 4000000 in
set_option maxRecDepth 100000 in
theorem known_any (w : World) : Calls Try.prog 18 #[] w fun e w' => e = .returned (.bool true) ∧ Below w.heap.size w w' := by
  obtain ⟨gp, hgp⟩ : ∃ gp, w.heap.size = gp := ⟨_, rfl⟩
  have hmk := zmk100 w
  obtain ⟨W, hW⟩ : ∃ W, w.alloc (.cells (zArr 100) 5) = W := ⟨_, rfl⟩
  have hB : Below gp w W := by rw [← hW, ← hgp]; exact (Below.refl _ _).alloc (Nat.le_refl _) _
  have hz : W.heap.size = gp + 1 := by rw [← hW, World.size_alloc, hgp]
  have hr : RB W (gp + 1) (some ⟨gp, 0, none⟩) (List.replicate 100 0) := by rw [← hW, ← hgp]; exact rw_lit w 5 (by8 (List.replicate 100 0))
  have HW := Lib.hid hW
  have HGP := Lib.hid hgp
  have HB := Lib.hid hB
  have HS := Lib.hid (split_any pk0 pk0_ok none (some ⟨gp, 0, none⟩) 0 0 100 100 (gp + 1) [] (List.replicate 100 0) 68 (by omega) rfl (Nat.le_refl _) (by omega) Bs.nil (by simp) (Nat.le_refl _) (by omega) (by intro x hx; have := List.eq_of_mem_replicate hx; omega) W (Rw.nil _ _ _) hr (by omega))
  unfold pkC pk0 at HS
  clear hW hgp hB hr
  go_enter Try.func18, Try.ntmps18
  go_wp2_with fail
  rw [HW.out, HGP.out]
  refine HS.out.mono ?_
  rintro e W2 ⟨k, A, n, c, L, rfl, hsp, hP, hPm, hB2⟩
  obtain ⟨rfl, hL⟩ := spl0 hsp
  have HB2 := Lib.hid hB2
  obtain ⟨x0, x1, x2, rfl⟩ := three hL
  simp only [List.map_cons, List.map_nil, List.cons.injEq, Pm.plain, Prod.mk.injEq] at hL
  obtain ⟨_, ⟨e1, _, _⟩, ⟨e2, _, e3⟩, _⟩ := hL
  have hn := hP.len
  simp at hn
  subst hn
  obtain ⟨g, rfl, hg, hgl, hc1⟩ := hP.cell (k := 1) (x := x1) rfl
  obtain ⟨g', e', hg', hgl', hc2⟩ := hP.cell (k := 2) (x := x2) rfl
  injection e' with e'
  injection e' with e'
  subst e'
  have a4 := hc1 4 _ rfl
  have a3 := hc1 3 _ rfl
  have b3 := hc2 3 _ rfl
  have b10 := hc2 10 _ rfl
  have hdn : x2.dn = 4 := by
    have := OB.length (hPm.1 x2 (by simp)).2.1
    rw [e3] at this
    simpa using this.symm
  rw [e1] at a4 a3
  rw [e2] at b3
  rw [hdn] at b10
  simp only [piece] at a4 a3 b3
  clear hc1 hc2 hsp hPm hP hB2 e1 e2 e3 hdn
  go_wp2
  go_ret
  exact ⟨rfl, by rw [HGP.out]; exact HB.out.trans (HB2.out.mono (by omega))⟩
end Go.Proofs.Ytcjkhonapafndaa
