/- Proved: what stands at each place of a segment's bytes; what the law's own readers read. Conditions: as each law says. -/
import Derived.Test.YtifeomdmbjinoaaSegF
import Derived.Test.YtifeomdmbjinoaaRdAt
set_option linter.unusedVariables false
set_option linter.unusedSimpArgs false
namespace Go.Proofs.Ytifeomdmbjinoaa
open Go.RowKit
theorem optB_len4 (m k : Int) : (optB m k).length = 0 ∨ (optB m k).length = 4 ∨ (optB m k).length = 8 := by
  unfold optB mssB scB
  split <;> split <;> simp [be_length]
theorem segB_lay (s : Sg) (h x : Int) (o d : List Int) : segB s h x o d = [s.fp / 256 % 256, s.fp % 256, s.tp / 256 % 256, s.tp % 256, s.seq / 16777216 % 256, s.seq / 65536 % 256, s.seq / 256 % 256, s.seq % 256,
    s.ack / 16777216 % 256, s.ack / 65536 % 256, s.ack / 256 % 256, s.ack % 256, h % 256, s.fl % 256, s.win / 256 % 256, s.win % 256, x / 256 % 256, x % 256, 0, 0] ++ (o ++ d) := by
  simp [segB, segH, be]
section
variable (s : Sg) (h x : Int) (o d : List Int)
theorem segB_0 (hf : 0 ≤ s.fp ∧ s.fp ≤ 65535) : rd2 (segB s h x o d) 0 = s.fp := by rw [segB_lay]; simp [rd2, at8]; omega
theorem segB_2 (hf : 0 ≤ s.tp ∧ s.tp ≤ 65535) : rd2 (segB s h x o d) 2 = s.tp := by rw [segB_lay]; simp [rd2, at8]; omega
theorem segB_4 (hf : U32 s.seq) : rd4 (segB s h x o d) 4 = s.seq := by unfold U32 at hf; rw [segB_lay]; simp [rd4, at8]; omega
theorem segB_8 (hf : U32 s.ack) : rd4 (segB s h x o d) 8 = s.ack := by unfold U32 at hf; rw [segB_lay]; simp [rd4, at8]; omega
theorem segB_12 (hh : 0 ≤ h ∧ h ≤ 255) : at8 (segB s h x o d) 12 = h := by rw [segB_lay]; simp [at8]; omega
theorem segB_13 (hh : 0 ≤ s.fl ∧ s.fl ≤ 63) : at8 (segB s h x o d) 13 = s.fl := by rw [segB_lay]; simp [at8]; omega
theorem segB_14 (hf : 0 ≤ s.win ∧ s.win ≤ 65535) : rd2 (segB s h x o d) 14 = s.win := by rw [segB_lay]; simp [rd2, at8]; omega
theorem segB_18 : rd2 (segB s h x o d) 18 = 0 := by rw [segB_lay]; simp [rd2, at8]
theorem segB_drop20 : (segB s h x o d).drop 20 = o ++ d := by rw [segB_lay]; rfl
theorem segB_drop (m : Nat) (hm : o.length = m) : (segB s h x o d).drop (20 + m) = d := by
  rw [← List.drop_drop, segB_drop20, ← hm, List.drop_left]
end

theorem pl2_any (gb : Nat) (A : Option Addr) (n c B : Nat) (l : List Int) (k : Nat) (hn : l.length = n) (hk : k + 2 ≤ n) (hmax : n ≤ 140737488355328) (hb : Bs l) (w : World) (hm : Bk w gb 24 #[.slice A n c]) (hr : RB w B A l) :
    Calls Try.prog 17 #[.int .i64 k, .pointer (some ⟨gb, 0, none⟩)] w fun e w' => e = .returned (.int .i64 (rd2 l k)) ∧ ∃ j, w' = w.drewN j := by
  obtain ⟨b, off, rfl, _, c0⟩ := hr.at_ (k := k) (by omega)
  obtain ⟨b', off', e', _, c1⟩ := hr.at_ (k := k + 1) (by omega)
  injection e' with e'; injection e' with e1 e2; subst e1; subst e2
  have a0 := hb.at_ k
  have a1 := hb.at_ (k + 1)
  have cb : w.cell? ⟨gb, 0, none⟩ = _ := hm.cell 0
  simp only [List.getElem?_toArray, List.getElem?_cons_zero] at cb
  have hR : rd2 l k = l[k]?.getD 0 * 256 + l[k + 1]?.getD 0 := rfl
  obtain ⟨x0, h0⟩ : ∃ x, l[k]?.getD 0 = x := ⟨_, rfl⟩
  obtain ⟨x1, h1⟩ : ∃ x, l[k + 1]?.getD 0 = x := ⟨_, rfl⟩
  rw [h0, h1] at hR
  rw [h0] at c0 a0
  rw [h1] at c1 a1
  rw [hR]
  have w1 : IntKind.i64.wrap ((k : Int) + 1) = k + 1 := IntWalk.i64_in _ (by omega)
  have v0 : IntKind.i64.wrap (x0 * 256) = x0 * 256 := IntWalk.i64_in _ (by omega)
  have v1 : IntKind.i64.wrap (x0 * 256 + x1) = x0 * 256 + x1 := IntWalk.i64_in _ (by omega)
  have v2 : IntKind.i64.wrap x0 = x0 := IntWalk.i64_in _ (by omega)
  have v3 : IntKind.i64.wrap x1 = x1 := IntWalk.i64_in _ (by omega)
  have n1 : ((k : Int) + 1).toNat = k + 1 := by omega
  have p1 : (0 : Int) ≤ (k : Int) + 1 := by omega
  have p0 : (0 : Int) ≤ (k : Int) := by omega
  have l0 : (k : Int) < n := by omega
  have l1 : (k : Int) + 1 < n := by omega
  clear hn h0 h1 hR
  go_enter Try.func17, Try.ntmps17
  go_wp2
  go_quiet (fail)
  go_wp2
  go_ret
  exact ⟨rfl, _, rfl⟩

theorem pl4_any (gb : Nat) (A : Option Addr) (n c B : Nat) (l : List Int) (k : Nat) (hn : l.length = n) (hk : k + 4 ≤ n) (hmax : n ≤ 140737488355328) (hb : Bs l) (w : World) (hm : Bk w gb 24 #[.slice A n c]) (hr : RB w B A l) :
    Calls Try.prog 16 #[.int .i64 k, .pointer (some ⟨gb, 0, none⟩)] w fun e w' => e = .returned (.int .u32 (rd4 l k)) ∧ ∃ j, w' = w.drewN j := by
  obtain ⟨b, off, rfl, _, c0⟩ := hr.at_ (k := k) (by omega)
  obtain ⟨b', off', e', _, c1⟩ := hr.at_ (k := k + 1) (by omega)
  injection e' with e'; injection e' with e1 e2; subst e1; subst e2
  obtain ⟨b', off', e', _, c2⟩ := hr.at_ (k := k + 2) (by omega)
  injection e' with e'; injection e' with e1 e2; subst e1; subst e2
  obtain ⟨b', off', e', _, c3⟩ := hr.at_ (k := k + 3) (by omega)
  injection e' with e'; injection e' with e1 e2; subst e1; subst e2
  have a0 := hb.at_ k
  have a1 := hb.at_ (k + 1)
  have a2 := hb.at_ (k + 2)
  have a3 := hb.at_ (k + 3)
  have cb : w.cell? ⟨gb, 0, none⟩ = _ := hm.cell 0
  simp only [List.getElem?_toArray, List.getElem?_cons_zero] at cb
  have hR : rd4 l k = l[k]?.getD 0 * 16777216 + l[k + 1]?.getD 0 * 65536 + l[k + 2]?.getD 0 * 256 + l[k + 3]?.getD 0 := rfl
  obtain ⟨x0, h0⟩ : ∃ x, l[k]?.getD 0 = x := ⟨_, rfl⟩
  obtain ⟨x1, h1⟩ : ∃ x, l[k + 1]?.getD 0 = x := ⟨_, rfl⟩
  obtain ⟨x2, h2⟩ : ∃ x, l[k + 2]?.getD 0 = x := ⟨_, rfl⟩
  obtain ⟨x3, h3⟩ : ∃ x, l[k + 3]?.getD 0 = x := ⟨_, rfl⟩
  rw [h0, h1, h2, h3] at hR
  rw [h0] at c0 a0
  rw [h1] at c1 a1
  rw [h2] at c2 a2
  rw [h3] at c3 a3
  rw [hR]
  have o1 : bits .or .u32 (x0 * 16777216) (x1 * 65536) = x0 * 16777216 + x1 * 65536 := or_u32_join 24 _ _ (by omega) (by omega) (by omega) (by omega) (by omega) (by omega)
  have o2 : bits .or .u32 (x0 * 16777216 + x1 * 65536) (x2 * 256) = x0 * 16777216 + x1 * 65536 + x2 * 256 := or_u32_join 16 _ _ (by omega) (by omega) (by omega) (by omega) (by omega) (by omega)
  have o3 : bits .or .u32 (x0 * 16777216 + x1 * 65536 + x2 * 256) x3 = x0 * 16777216 + x1 * 65536 + x2 * 256 + x3 := or_u32_join 8 _ _ (by omega) (by omega) (by omega) (by omega) (by omega) (by omega)
  have w1 : IntKind.i64.wrap ((k : Int) + 1) = k + 1 := IntWalk.i64_in _ (by omega)
  have w2 : IntKind.i64.wrap ((k : Int) + 2) = k + 2 := IntWalk.i64_in _ (by omega)
  have w3 : IntKind.i64.wrap ((k : Int) + 3) = k + 3 := IntWalk.i64_in _ (by omega)
  have v0 : IntKind.u32.wrap (x0 * 16777216) = x0 * 16777216 := by rw [IntKind.wrap_u32]; omega
  have v1 : IntKind.u32.wrap (x1 * 65536) = x1 * 65536 := by rw [IntKind.wrap_u32]; omega
  have v2 : IntKind.u32.wrap (x2 * 256) = x2 * 256 := by rw [IntKind.wrap_u32]; omega
  have n1 : ((k : Int) + 1).toNat = k + 1 := by omega
  have n2 : ((k : Int) + 2).toNat = k + 2 := by omega
  have n3 : ((k : Int) + 3).toNat = k + 3 := by omega
  have p1 : (0 : Int) ≤ (k : Int) + 1 := by omega
  have p2 : (0 : Int) ≤ (k : Int) + 2 := by omega
  have p3 : (0 : Int) ≤ (k : Int) + 3 := by omega
  have p0 : (0 : Int) ≤ (k : Int) := by omega
  have l0 : (k : Int) < n := by omega
  have l1 : (k : Int) + 1 < n := by omega
  have l2 : (k : Int) + 2 < n := by omega
  have l3 : (k : Int) + 3 < n := by omega
  clear hn h0 h1 h2 h3 hR
  go_enter Try.func16, Try.ntmps16
  go_wp2
  go_quiet (fail)
  go_wp2
  go_ret
  exact ⟨rfl, _, rfl⟩
end Go.Proofs.Ytifeomdmbjinoaa
