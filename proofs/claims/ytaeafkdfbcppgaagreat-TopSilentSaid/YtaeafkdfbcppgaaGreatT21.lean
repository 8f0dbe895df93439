/- Proved: no connection is handed out, sorted, of none: slices.Sorted(maps.Keys(m)) of a nil map; a world at the tick 0. Conditions: as each law says. -/
import Derived.LoopN
import Derived.Shelf.SlIterI.Nil
import Derived.Test.YtaeafkdfbcppgaaGreatT17
set_option linter.unusedSectionVars false
set_option linter.unusedSimpArgs false
set_option linter.unusedVariables false
namespace Go.Proofs.YtaeafkdfbcppgaaGreat
open Go.RowKit Go.Shelf Go.Maps Go.Sort
def colA_ren : Go.Shelf.Ren := ⟨fun | 8 => 235 | 11 => 293 | n => n, fun | 26 => 3 | 28 => 347 | 24 => 43 | 0 => 0 | 33 => 254 | 4 => 4 | n => n, fun | n => n⟩
theorem colA : Go.Proofs.SlLaysZI.n8 Tryz.prog colA_ren := {
 mixed := by kernel_rfl
 f8 := ⟨Tryz.f235.name, by decide, Tryz.func235.trans (congrArg some (by kernel_rfl))⟩
 f11 := ⟨Tryz.f293.name, by decide, Tryz.func293.trans (congrArg some (by kernel_rfl))⟩
 t0 := Tryz.underlying0
 a0 := Tryz.isAgg0
 z0 := Tryz.sizeOf0
 v0 := Tryz.zeroValue0
 t24 := Tryz.underlying43
 a24 := Tryz.isAgg43
 z24 := Tryz.sizeOf43
 v24 := Tryz.zeroValue43
 t26 := Tryz.underlying3
 a26 := Tryz.isAgg3
 z26 := Tryz.sizeOf3
 v26 := Tryz.zeroValue3
 t28 := Tryz.underlying347
 a28 := Tryz.isAgg347
 z28 := Tryz.sizeOf347
 v28 := Tryz.zeroValue347
 i26 := by kernel_rfl }
def keysA_ren : Go.Shelf.Ren := ⟨fun | 7 => 170 | 10 => 237 | n => n, fun | 23 => 138 | 26 => 3 | 3 => 270 | 28 => 347 | 0 => 0 | 27 => 346 | 33 => 254 | 4 => 4 | n => n, fun | n => n⟩
theorem keysA : Go.Proofs.SlLaysZI.n7 Tryz.prog keysA_ren := {
 mixed := by kernel_rfl
 f7 := ⟨Tryz.f170.name, by decide, Tryz.func170.trans (congrArg some (by kernel_rfl))⟩
 f10 := ⟨Tryz.f237.name, by decide, Tryz.func237.trans (congrArg some (by kernel_rfl))⟩
 t0 := Tryz.underlying0
 a0 := Tryz.isAgg0
 z0 := Tryz.sizeOf0
 v0 := Tryz.zeroValue0
 t4 := Tryz.underlying4
 a4 := Tryz.isAgg4
 z4 := Tryz.sizeOf4
 v4 := Tryz.zeroValue4
 t23 := Tryz.underlying138
 a23 := Tryz.isAgg138
 z23 := Tryz.sizeOf138
 v23 := Tryz.zeroValue138
 t26 := Tryz.underlying3
 a26 := Tryz.isAgg3
 z26 := Tryz.sizeOf3
 v26 := Tryz.zeroValue3
 t27 := Tryz.underlying346
 a27 := Tryz.isAgg346
 z27 := Tryz.sizeOf346
 v27 := Tryz.zeroValue346
 t28 := Tryz.underlying347
 a28 := Tryz.isAgg347
 z28 := Tryz.sizeOf347
 v28 := Tryz.zeroValue347
 t33 := Tryz.underlying254
 a33 := Tryz.isAgg254
 z33 := Tryz.sizeOf254
 v33 := Tryz.zeroValue254 }
theorem collect_nil (Bm : Nat) (w : World) (hBm : Bm < w.heap.size) (hm : w.cell? ⟨Bm, 0, none⟩ = some (.map none)) :
  Calls Tryz.prog 235 #[.func (.func 237) #[] #[.pointer (some ⟨Bm, 0, none⟩)]] w fun e w' => e = .returned nilS ∧ Below w.heap.size w w' := by
 refine (callsIn_wide (n := 6)).1 ?_
 have hseq : SeqGives Fence.wide 4 Tryz.prog 237 #[.pointer (some ⟨Bm, 0, none⟩)] encZ (fun ss : List Int => ss = []) 0 w := AnyZI.keys_gives_nil (ρ := keysA_ren) { keysA with } Fence.wide 4 trivial rfl Bm w hBm hm
 have h := AnyZI.collect_in (ρ := colA_ren) colA Fence.wide 6 trivial trivial rfl (by omega) 237 #[.pointer (some ⟨Bm, 0, none⟩)] trivial (enters_of Tryz.func237 (by kernel_rfl) rfl) (fun ss => ss = []) 0 (by decide) (by decide) w hseq
 refine h.mono ?_
 rintro e w' ⟨v, ss, rfl, hS, _, hnil, hb⟩
 rw [hnil.2 hS]
 exact ⟨rfl, hb⟩
theorem keys_nil (w : World) : Calls Tryz.prog 170 #[.map none] w fun e w' => e = .returned (.func (.func 237) #[] #[.pointer (some ⟨w.heap.size, 0, none⟩)]) ∧ w' = w.alloc (.cells #[.map none] 138) := by
 have hmf : ∀ (fn : Fn) (first cap : Array Value) (w : World), (Instr.makeFunc fn first cap).run Tryz.prog w = .ok (.func fn first cap) w := fun _ _ _ _ => rfl
 go_enter Tryz.func170, Tryz.ntmps170
 go_wp2
 go_ret
 exact ⟨rfl, rfl⟩
set_option maxRecDepth 100000 in
theorem len0 (w : World) : Calls Tryz.prog 152 #[.int .u64 0] w fun e w' => (∃ k : Int, e = .returned (.int .i64 k)) ∧ w = w' := by
 have h64 : Calls Tryz.prog 226 #[.int .u64 0] w fun e w' => (∃ k : Int, e = .returned (.int .i64 k)) ∧ w = w' := by
  go_enter Tryz.func226, Tryz.ntmps226
  go_wp2
  go_ret
  exact ⟨⟨_, rfl⟩, rfl⟩
 have H64 := Lib.hid h64
 clear h64
 go_enter Tryz.func152, Tryz.ntmps152
 go_wp2_with fail
 refine H64.out.mono ?_
 rintro e w' ⟨⟨k, rfl⟩, rfl⟩
 go_wp2
 go_ret
 exact ⟨⟨_, rfl⟩, rfl⟩
set_option maxRecDepth 100000 in
theorem ins0_i (w : World) : Calls Tryz.prog 338 #[nilS, .int .i64 0, .int .i64 0] w fun e w' => e = .returned (.tuple #[]) ∧ w = w' := by
 go_enter Tryz.func338, Tryz.ntmps338
 go_wp2
 refine wp_loop_rounds 1 ?_; rw [rounds_succ]
 go_wp2
 go_end0
 exact ⟨rfl, rfl⟩
set_option maxRecDepth 100000 in
theorem pdq0_i (k : Int) (w : World) : Calls Tryz.prog 294 #[nilS, .int .i64 0, .int .i64 0, .int .i64 k] w fun e w' => e = .returned (.tuple #[]) ∧ w = w' := by
 go_enter Tryz.func294, Tryz.ntmps294
 go_wp2
 refine wp_loop_rounds 1 ?_; rw [rounds_succ]
 go_wp2_with fail
 refine (ins0_i _).mono ?_
 rintro e w' ⟨rfl, rfl⟩
 go_wp2
 refine bodyPost_ret (results_none rfl _ _ _) rfl ?_
 exact ⟨rfl, rfl⟩
set_option maxRecDepth 100000 in
theorem sort0_i (w : World) : Calls Tryz.prog 236 #[nilS] w fun e w' => e = .returned (.tuple #[]) ∧ w = w' := by
 go_enter Tryz.func236, Tryz.ntmps236
 go_wp2_with fail
 refine (len0 _).mono ?_
 rintro e w' ⟨⟨k, rfl⟩, rfl⟩
 go_wp2_with fail
 refine (pdq0_i k _).mono ?_
 rintro e w' ⟨rfl, rfl⟩
 go_wp2
 go_end0
 exact ⟨rfl, rfl⟩
set_option maxRecDepth 100000 in
theorem ins0_a (w : World) : Calls Tryz.prog 216 #[nilS, .int .i64 0, .int .i64 0] w fun e w' => e = .returned (.tuple #[]) ∧ w = w' := by
 go_enter Tryz.func216, Tryz.ntmps216
 go_wp2
 refine wp_loop_rounds 1 ?_; rw [rounds_succ]
 go_wp2
 go_end0
 exact ⟨rfl, rfl⟩
set_option maxRecDepth 100000 in
theorem pdq0_a (k : Int) (w : World) : Calls Tryz.prog 151 #[nilS, .int .i64 0, .int .i64 0, .int .i64 k] w fun e w' => e = .returned (.tuple #[]) ∧ w = w' := by
 go_enter Tryz.func151, Tryz.ntmps151
 go_wp2
 refine wp_loop_rounds 1 ?_; rw [rounds_succ]
 go_wp2_with fail
 refine (ins0_a _).mono ?_
 rintro e w' ⟨rfl, rfl⟩
 go_wp2
 refine bodyPost_ret (results_none rfl _ _ _) rfl ?_
 exact ⟨rfl, rfl⟩
set_option maxRecDepth 100000 in
theorem sort0_a (w : World) : Calls Tryz.prog 93 #[nilS] w fun e w' => e = .returned (.tuple #[]) ∧ w = w' := by
 go_enter Tryz.func93, Tryz.ntmps93
 go_wp2_with fail
 refine (len0 _).mono ?_
 rintro e w' ⟨⟨k, rfl⟩, rfl⟩
 go_wp2_with fail
 refine (pdq0_a k _).mono ?_
 rintro e w' ⟨rfl, rfl⟩
 go_wp2
 go_end0
 exact ⟨rfl, rfl⟩
theorem sorted_nil (Bm : Nat) (w : World) (hBm : Bm < w.heap.size) (hm : w.cell? ⟨Bm, 0, none⟩ = some (.map none)) :
  Calls Tryz.prog 169 #[.func (.func 237) #[] #[.pointer (some ⟨Bm, 0, none⟩)]] w fun e w' => e = .returned nilS ∧ Below w.heap.size w w' := by
 have HC := Lib.hid (collect_nil Bm w hBm hm)
 clear hBm hm
 go_enter Tryz.func169, Tryz.ntmps169
 go_wp2_with fail
 refine HC.out.mono ?_
 rintro e1 w1 ⟨rfl, hB1⟩
 have HB1 := Lib.hid hB1
 clear hB1
 go_wp2_with fail
 refine (sort0_i _).mono ?_
 rintro e2 w2 ⟨rfl, rfl⟩
 go_wp2
 go_ret
 exact ⟨rfl, HB1.out⟩
theorem hubsorted_nil (h : Nat) (v : HV) (w : World) (hb : HB w h v) : Calls Tryz.prog 108 #[.pointer (some ⟨h, 19, none⟩)] w fun e w' => e = .returned nilS ∧ Below w.heap.size w w' := by
 have c20 : w.cell? ⟨h, 20, none⟩ = some (.map none) := Bk.cell hb 20
 clear hb
 go_enter Tryz.func108, Tryz.ntmps108
 go_wp2_with fail
 refine (keys_nil _).mono ?_
 rintro e1 w1 ⟨rfl, hw1⟩
 have hB1 : Below w.heap.size w w1 := by rw [hw1]; exact (Below.refl _ _).alloc (Nat.le_refl _) _
 have hc1 : w1.cell? ⟨w.heap.size, 0, none⟩ = some (.map none) := by rw [hw1]; exact (Bk.new w _ _).cell 0
 have hl1 : w.heap.size < w1.heap.size := by rw [hw1]; simp
 have HB1 := Lib.hid hB1
 clear hw1 hB1
 go_wp2_with fail
 refine (sorted_nil w.heap.size _ hl1 hc1).mono ?_
 rintro e2 w2 ⟨rfl, hB2⟩
 have HB2 : Hid (Below w.heap.size w w2) := Lib.hid (HB1.out.trans (hB2.mono HB1.out.size))
 clear hB2
 go_wp2
 refine wp_loop_rounds 1 ?_; rw [rounds_succ]
 go_wp2
 go_ret
 exact ⟨rfl, HB2.out⟩
theorem hubsettle_nil (q : Value) (w : World) : Calls Tryz.prog 110 #[q, nilS] w fun e w' => e = .returned (.tuple #[]) ∧ w = w' := by
 go_enter Tryz.func110, Tryz.ntmps110
 go_wp2
 refine wp_loop_rounds 1 ?_; rw [rounds_succ]
 go_wp2
 go_end0
 exact ⟨rfl, rfl⟩
theorem hubtick_nil (h : Nat) (v : HV) (now : Int) (w : World) (hb : HB w h v) : Calls Tryz.prog 50 #[.pointer (some ⟨h, 19, none⟩), .int .i64 now] w fun e w' => e = .returned nilS ∧ Below w.heap.size w w' := by
 have HH := Lib.hid hb
 clear hb
 go_enter Tryz.func50, Tryz.ntmps50
 go_wp2_with fail
 refine (hubsorted_nil h v _ HH.out).mono ?_
 rintro e1 w1 ⟨rfl, hB1⟩
 have HB1 := Lib.hid hB1
 clear hB1
 go_wp2_with fail
 refine wp_loop_rounds 1 ?_; rw [rounds_succ]
 go_wp2_with fail
 refine (hubsettle_nil _ _).mono ?_
 rintro e2 w2 ⟨rfl, rfl⟩
 go_wp2
 go_ret
 exact ⟨rfl, HB1.out⟩
open Go.RowKit
theorem ix_side (b o : Nat) (i : Int) (hi : i = 0 ∨ i = 1) (w : World) : (Instr.indexAt 69 (.pointer (some ⟨b, o, none⟩)) (.int .i64 i)).run Tryz.prog w = .ok (.pointer (some ⟨b, o + i.toNat, none⟩)) w := by
 have h1 := run_indexAt_array (P := Tryz.prog) (w := w) 69 ⟨b, o, none⟩ .i64 i (by kernel_rfl)
 have h2 : Tryz.prog.arrayLen 69 = 2 := by kernel_rfl
 have h3 : (sizeOf (Tryz.prog.elem 69)).run Tryz.prog w = .ok 1 w := by kernel_rfl
 rw [h2, h3] at h1
 rw [h1, if_pos (by omega)]
 simp [Result.andThen, add_eq]
def wrC (s0 s1 : Nat) (now last : Int) (begun : Bool) (fl : Value) : Array Value := #[bp s0, bp s1, .int .i64 now, .int .u32 last, .bool begun, fl]
def Idle (w : World) (F : Nat → Prop) (st sm : Nat) (d : HD) (m : Int × Int × Int × Int × Int × Int) (a : Int) : Prop :=
 SideAt w F st sm d (hv0 m a d.S d.bk d.plc d.arr) ∧ NoSk w sm d (hv0 m a d.S d.bk d.plc d.arr)
theorem Idle.keep {w w' : World} {F G : Nat → Prop} {st sm : Nat} {d : HD} {m : Int × Int × Int × Int × Int × Int} {a : Int} (t : Idle w F st sm d m a) (hk : ∀ b, F b → b < w.heap.size → w'.heap[b]? = w.heap[b]?) (hFG : ∀ b, F b → G b) : Idle w' G st sm d m a :=
 ⟨t.1.keep hk hFG, t.2.keep (hk _ t.1.fsm t.2.1.lt) (hk _ t.1.fpl t.2.2.2.lt)⟩
theorem Idle.chg {w w' : World} {F G : Nat → Prop} {st sm : Nat} {d : HD} {m : Int × Int × Int × Int × Int × Int} {a : Int} (t : Idle w F st sm d m a) (hc : Chg G w w') (hd : ∀ b, F b → ¬ G b) : Idle w' F st sm d m a := t.keep (fun b h hl => hc.block b hl (hd b h)) (fun _ h => h)
structure WIdle (w : World) (W : Nat) (F0 F1 : Nat → Prop) (m m' : Int × Int × Int × Int × Int × Int) (a a' : Int) (now last : Int) (begun : Bool) : Prop where
 ex : ∃ st0 sm0 d0 st1 sm1 d1, Bk w W 72 (wrC st0 st1 now last begun nilS) ∧ Idle w F0 st0 sm0 d0 m a ∧ Idle w F1 st1 sm1 d1 m' a'
 apart : ∀ b, F0 b → ¬ F1 b
 nW0 : ¬ F0 W
 nW1 : ¬ F1 W
set_option maxHeartbeats 8000000 in
set_option maxRecDepth 100000 in
theorem wnew_any (m m' : Int × Int × Int × Int × Int × Int) (a a' : Int) (hm : bits BinOp.and IntKind.u8 m.1 1 = 0) (ha : okH a) (hm' : bits BinOp.and IntKind.u8 m'.1 1 = 0) (ha' : okH a') (w : World) :
  Calls Tryz.prog 10 #[.agg (cfgC m a), .agg (cfgC m' a')] w fun e w' => ∃ W F0 F1, e = .returned (.tuple #[bp W, .int .i64 0]) ∧ WIdle w' W F0 F1 m m' a a' 0 0 false ∧ w.heap.size ≤ W ∧ W < w'.heap.size ∧ (∀ b, F0 b ∨ F1 b → w.heap.size ≤ b ∧ b < w'.heap.size) ∧ Below w.heap.size w w' := by
 have i0 : ∀ w, (Instr.index 73 (.agg #[.int .u8 m.1, .int .u8 m.2.1, .int .u8 m.2.2.1, .int .u8 m.2.2.2.1, .int .u8 m.2.2.2.2.1, .int .u8 m.2.2.2.2.2, .int .u32 a, .int .i64 24, .int .u32 0, .int .u8 m'.1, .int .u8 m'.2.1, .int .u8 m'.2.2.1, .int .u8 m'.2.2.2.1, .int .u8 m'.2.2.2.2.1, .int .u8 m'.2.2.2.2.2, .int .u32 a', .int .i64 24, .int .u32 0]) (.int .i64 0)).run Tryz.prog w = .ok (.agg #[.int .u8 m.1, .int .u8 m.2.1, .int .u8 m.2.2.1, .int .u8 m.2.2.2.1, .int .u8 m.2.2.2.2.1, .int .u8 m.2.2.2.2.2, .int .u32 a, .int .i64 24, .int .u32 0]) w := fun _ => by kernel_rfl
 have i1 : ∀ w, (Instr.index 73 (.agg #[.int .u8 m.1, .int .u8 m.2.1, .int .u8 m.2.2.1, .int .u8 m.2.2.2.1, .int .u8 m.2.2.2.2.1, .int .u8 m.2.2.2.2.2, .int .u32 a, .int .i64 24, .int .u32 0, .int .u8 m'.1, .int .u8 m'.2.1, .int .u8 m'.2.2.1, .int .u8 m'.2.2.2.1, .int .u8 m'.2.2.2.2.1, .int .u8 m'.2.2.2.2.2, .int .u32 a', .int .i64 24, .int .u32 0]) (.int .i64 1)).run Tryz.prog w = .ok (.agg #[.int .u8 m'.1, .int .u8 m'.2.1, .int .u8 m'.2.2.1, .int .u8 m'.2.2.2.1, .int .u8 m'.2.2.2.2.1, .int .u8 m'.2.2.2.2.2, .int .u32 a', .int .i64 24, .int .u32 0]) w := fun _ => by kernel_rfl
 have HM : Hid (bits BinOp.and IntKind.u8 m.1 1 = 0 ∧ okH a ∧ bits BinOp.and IntKind.u8 m'.1 1 = 0 ∧ okH a') := Lib.hid ⟨hm, ha, hm', ha'⟩
 clear hm ha hm' ha'
 obtain ⟨W0, hW0⟩ : ∃ W0, ((w.alloc (.cells (cfgC m a) 30)).alloc (.cells (cfgC m' a') 30)).alloc (.cells #[.pointer none, .pointer none, .int .i64 0, .int .u32 0, .bool false, nilS] 72) = W0 := ⟨_, rfl⟩
 have hz0 : W0.heap.size = w.heap.size + 3 := by rw [← hW0]; simp
 have hb0 : Below w.heap.size w W0 := by rw [← hW0]; exact (((Below.refl _ _).alloc (Nat.le_refl _) _).alloc (by simp) _).alloc (by simp; omega) _
 have hk0 : Bk W0 (w.heap.size + 1 + 1) 72 #[.pointer none, .pointer none, .int .i64 0, .int .u32 0, .bool false, nilS] := by
  have := Bk.new ((w.alloc (.cells (cfgC m a) 30)).alloc (.cells (cfgC m' a') 30)) 72 #[.pointer none, .pointer none, .int .i64 0, .int .u32 0, .bool false, nilS]
  rw [hW0] at this
  simpa using this
 have HW0 : Hid (((w.alloc (.cells #[.int .u8 m.1, .int .u8 m.2.1, .int .u8 m.2.2.1, .int .u8 m.2.2.2.1, .int .u8 m.2.2.2.2.1, .int .u8 m.2.2.2.2.2, .int .u32 a, .int .i64 24, .int .u32 0] 30)).alloc (.cells #[.int .u8 m'.1, .int .u8 m'.2.1, .int .u8 m'.2.2.1, .int .u8 m'.2.2.2.1, .int .u8 m'.2.2.2.2.1, .int .u8 m'.2.2.2.2.2, .int .u32 a', .int .i64 24, .int .u32 0] 30)).alloc (.cells #[.pointer none, .pointer none, .int .i64 0, .int .u32 0, .bool false, nilS] 72) = W0) := Lib.hid hW0
 have HZ0 := Lib.hid hz0
 have HB0 := Lib.hid hb0
 have HK0 := Lib.hid hk0
 clear hW0 hz0 hb0 hk0
 have hix : ∀ b w, (Instr.indexAt 69 (.pointer (some ⟨b, 0, none⟩)) (.int .i64 0)).run Tryz.prog w = .ok (.pointer (some ⟨b, 0, none⟩)) w := fun b => ix_side b 0 0 (.inl rfl)
 have hix1 : ∀ b w, (Instr.indexAt 69 (.pointer (some ⟨b, 0, none⟩)) (.int .i64 1)).run Tryz.prog w = .ok (.pointer (some ⟨b, 1, none⟩)) w := fun b => ix_side b 0 1 (.inr rfl)
 go_enter Tryz.func10, Tryz.ntmps10
 unfold cfgC
 go_wp2_with fail
 rw [HW0.out]
 refine wp_loop_rounds 3 ?_; rw [rounds_succ]
 go_wp2_with fail
 obtain ⟨W1, hW1⟩ : ∃ W1, W0.alloc (.cells (cfgC m a) 30) = W1 := ⟨_, rfl⟩
 have HW1 : Hid (W0.alloc (.cells #[.int .u8 m.1, .int .u8 m.2.1, .int .u8 m.2.2.1, .int .u8 m.2.2.2.1, .int .u8 m.2.2.2.2.1, .int .u8 m.2.2.2.2.2, .int .u32 a, .int .i64 24, .int .u32 0] 30) = W1) := Lib.hid hW1
 have HB1 : Hid (Below W0.heap.size W0 W1) := Lib.hid (by rw [← hW1]; exact (Below.refl _ _).alloc (Nat.le_refl _) _)
 have HZ1 : Hid (W1.heap.size = w.heap.size + 4) := Lib.hid (by rw [← hW1, World.size_alloc, HZ0.out])
 clear hW1
 rw [HW1.out]
 refine (snew_any m a HM.out.1 HM.out.2.1 _).mono ?_
 rintro e1 w2 ⟨st0, sm0, d0, rfl, hN0⟩
 have HN0 := Lib.hid hN0
 have hb2 : Below W0.heap.size W0 w2 := HB1.out.trans (hN0.2.2.mono (by have := HZ0.out; have := HZ1.out; omega))
 have hk2 := HK0.out.below hb2 (by have := HZ0.out; omega)
 have c0 : w2.cell? ⟨w.heap.size + 1 + 1, 0, none⟩ = some (.pointer none) := hk2.cell 0
 have f0 := hk2.frozen 0
 have HB2 := Lib.hid hb2
 obtain ⟨W3, hW3⟩ : ∃ W3, w2.setCell ⟨w.heap.size + 1 + 1, 0, none⟩ (bp st0) = W3 := ⟨_, rfl⟩
 have hk3 := hk2.set 0 (bp st0)
 rw [hW3] at hk3
 have HK3 : Hid (Bk W3 (w.heap.size + 1 + 1) 72 #[bp st0, .pointer none, .int .i64 0, .int .u32 0, .bool false, nilS]) := Lib.hid hk3
 have HC3 : Hid (Chg (fun b => b = w.heap.size + 1 + 1) w2 W3) := Lib.hid (by rw [← hW3]; exact (Chg.refl _ w2).set1 _)
 have HW3 := Lib.hid hW3
 have HZ3 : Hid (W3.heap.size = w2.heap.size) := Lib.hid (by rw [← hW3, size_setCell])
 clear hN0 hb2 hk2 hW3 hk3
 go_wp2_with fail
 rw [HW3.out]
 rw [rounds_succ]
 go_wp2_with fail
 obtain ⟨W4, hW4⟩ : ∃ W4, W3.alloc (.cells (cfgC m' a') 30) = W4 := ⟨_, rfl⟩
 have HW4 : Hid (W3.alloc (.cells #[.int .u8 m'.1, .int .u8 m'.2.1, .int .u8 m'.2.2.1, .int .u8 m'.2.2.2.1, .int .u8 m'.2.2.2.2.1, .int .u8 m'.2.2.2.2.2, .int .u32 a', .int .i64 24, .int .u32 0] 30) = W4) := Lib.hid hW4
 have HB4 : Hid (Below W3.heap.size W3 W4) := Lib.hid (by rw [← hW4]; exact (Below.refl _ _).alloc (Nat.le_refl _) _)
 have HZ4 : Hid (W4.heap.size = w2.heap.size + 1) := Lib.hid (by rw [← hW4, World.size_alloc, HZ3.out])
 clear hW4
 rw [HW4.out]
 refine (snew_any m' a' HM.out.2.2.1 HM.out.2.2.2 _).mono ?_
 rintro e2 w5 ⟨st1, sm1, d1, rfl, hN1⟩
 have HN1 := Lib.hid hN1
 have hz2 : w.heap.size + 3 ≤ w2.heap.size := by have := HB2.out.size; have := HZ0.out; omega
 have hb5 : Below W3.heap.size W3 w5 := HB4.out.trans (hN1.2.2.mono (by have := HZ3.out; have := HZ4.out; omega))
 have hk5 := HK3.out.below hb5 (by have := HZ3.out; omega)
 have c1 : w5.cell? ⟨w.heap.size + 1 + 1, 1, none⟩ = some (.pointer none) := hk5.cell 1
 have f1 := hk5.frozen 1
 obtain ⟨W6, hW6⟩ : ∃ W6, w5.setCell ⟨w.heap.size + 1 + 1, 1, none⟩ (bp st1) = W6 := ⟨_, rfl⟩
 have hk6 := hk5.set 1 (bp st1)
 rw [hW6] at hk6
 have hk6' : Bk W6 (w.heap.size + 1 + 1) 72 (wrC st0 st1 0 0 false nilS) := hk6
 have hc6 : Chg (fun b => b = w.heap.size + 1 + 1) w5 W6 := by rw [← hW6]; exact (Chg.refl _ w5).set1 _
 have HW6 := Lib.hid hW6
 have HFIN : Hid (∃ W F0 F1, (Ending.returned (.tuple #[bp (w.heap.size + 1 + 1), .int .i64 0])) = .returned (.tuple #[bp W, .int .i64 0]) ∧ WIdle W6 W F0 F1 m m' a a' 0 0 false ∧ w.heap.size ≤ W ∧ W < W6.heap.size ∧ (∀ b, F0 b ∨ F1 b → w.heap.size ≤ b ∧ b < W6.heap.size) ∧ Below w.heap.size w W6) := Lib.hid (by
  have hz1 := HZ1.out
  have hz3 := HZ3.out
  have hz4 := HZ4.out
  have hz5 : w2.heap.size + 1 ≤ w5.heap.size := by have := hN1.2.2.size; omega
  have hz6 : W6.heap.size = w5.heap.size := by rw [← hW6, size_setCell]
  have hC : Chg (fun b => b = w.heap.size + 1 + 1) w2 W6 := ((HC3.out.trans (Chg.of_below (F := fun _ => False) hb5) (fun _ e => e.elim))).trans hc6 (fun x e => .inl e)
  have t0 : Idle W6 (fun b => W1.heap.size ≤ b ∧ b < w2.heap.size) st0 sm0 d0 m a := Idle.chg (w := w2) ⟨HN0.out.1, HN0.out.2.1⟩ hC (fun b h e => by omega)
  have t1 : Idle W6 (fun b => W4.heap.size ≤ b ∧ b < w5.heap.size) st1 sm1 d1 m' a' := Idle.chg (w := w5) ⟨hN1.1, hN1.2.1⟩ hc6 (fun b h e => by omega)
  refine ⟨w.heap.size + 1 + 1, _, _, rfl, ⟨⟨st0, sm0, d0, st1, sm1, d1, hk6', t0, t1⟩, fun b h1 h2 => by omega, by omega, by omega⟩, by omega, by omega, fun b h => by omega, ?_⟩
  have q1 : Below w.heap.size w w2 := HB0.out.trans (HB2.out.mono (by have := HZ0.out; omega))
  exact q1.trans (hC.below (fun b e => by omega) (by omega)))
 clear hN1 hz2 hb5 hk5 hW6 hk6 hk6' hc6
 go_wp2_with fail
 rw [HW6.out]
 rw [rounds_succ]
 go_wp2
 go_ret2
 exact HFIN.out
end Go.Proofs.YtaeafkdfbcppgaaGreat
