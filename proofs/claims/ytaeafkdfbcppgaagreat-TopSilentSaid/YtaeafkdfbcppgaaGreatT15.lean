/- Proved: the packet that bytes are. Conditions: as each law says. -/
import Derived.Test.YtaeafkdfbcppgaaGreatT14
set_option linter.unusedSectionVars false
set_option linter.unusedSimpArgs false
set_option linter.unusedVariables false
namespace Go.Proofs.YtaeafkdfbcppgaaGreat
open Go.RowKit
def pkZ : Array Value := #[.int .i64 0, .int .i64 0, .bool false, .bool false, .int .i64 0, .int .i64 0, .int .i64 0, .int .u32 0, .int .u32 0, .slice none 0 0, .slice none 0 0]
theorem pk_size : (Tryz.prog.info? 97).map (·.size) = some 11 := by kernel_rfl
def ipHn (l : List Int) : Nat := 4 * (at8 l 0 % 16).toNat
def ipWh (l : List Int) : Nat := (rd2 l 2).toNat
def ipP (l : List Int) : PkV := ⟨at8 l 1, rd2 l 4, bits .and .i64 (rd2 l 6) 16384 != 0, bits .and .i64 (rd2 l 6) 8192 != 0, rd2 l 6 % 8192 * 8, at8 l 8, at8 l 9, rd4 l 12, rd4 l 16⟩
def ipOl (l : List Int) : List Int := (l.drop 20).take (ipHn l - 20)
def ipDl (l : List Int) : List Int := (l.drop (ipHn l)).take (ipWh l - ipHn l)
def ipErr (l : List Int) : Int :=
 if l.length < 20 then 2 else if at8 l 0 / 16 ≠ 4 ∨ ipHn l < 20 then 3 else if l.length < ipHn l then 2 else if ipWh l < ipHn l then 3 else if l.length < ipWh l then 2 else
 if sumOf (l.take (ipHn l)) ≠ 0 then 4 else if rd2 l 6 / 32768 ≠ 0 ∨ goodO (ipOl l) = false then 3 else if ¬ fitsP (ipP l).off (ipOl l).length (ipDl l).length then 5 else 0
def IpDec (l : List Int) (w : World) (e : Ending) (w' : World) : Prop :=
 ∃ A n c A2 n2 c2, e = .returned (.tuple #[.agg (if ipErr l = 0 then pkC (ipP l) (.slice A n c) (.slice A2 n2 c2) else pkZ), .int .i64 (ipErr l)]) ∧ (ipErr l = 0 → OB 5 w' w.heap.size A n c (ipOl l) ∧ OB 5 w' w.heap.size A2 n2 c2 (ipDl l)) ∧ Below w.heap.size w w'
theorem ipfail (k : Int) (w : World) : Calls Tryz.prog 71 #[.int .i64 k] w fun e w' => e = .returned (.tuple #[.agg pkZ, .int .i64 k]) ∧ Below w.heap.size w w' := by
 go_enter Tryz.func71, Tryz.ntmps71
 go_wp2
 refine bodyPost_ret (results_b1 rfl _ _ w.heap.size 97 pkZ (0, 0) _ rfl (Bk.new w _ pkZ) Tryz.underlying97 rfl pk_size) rfl ?_
 exact ⟨rfl, (Below.refl _ _).alloc (Nat.le_refl _) _⟩
theorem ix0 (b o n c : Nat) (hn : 0 < n) (w : World) : (Instr.indexAt 37 (.slice (some ⟨b, o, none⟩) n c) (.int .i64 0)).run Tryz.prog w = .ok (.pointer (some ⟨b, o, none⟩)) w := by
 have h := run_indexAt_slice (P := Tryz.prog) (w := w) 37 ⟨b, o, none⟩ n c .i64 0 (by kernel_rfl)
 have h3 : (sizeOf (Tryz.prog.elem 37)).run Tryz.prog w = .ok 1 w := by kernel_rfl
 rw [h3] at h
 rw [h, if_pos (by omega)]
 simp [Result.andThen, add_eq]
theorem pkZ_all : pkZ.all (·.oneCell') = true := by simp [pkZ, Value.oneCell']
set_option maxHeartbeats 4000000 in
set_option maxRecDepth 100000 in
theorem ipd_few (A : Option Addr) (n c : Nat) (l : List Int) (hn : l.length = n) (h : n < 20) (w : World) :
  Calls Tryz.prog 29 #[.slice A n c] w (IpDec l w) := by
 have e1 : decide ((n : Int) < 20) = true := by simp; omega
 have HE : Hid (ipErr l = 2) := Lib.hid (by unfold ipErr; rw [if_pos (by omega)])
 obtain ⟨W, hW⟩ : ∃ W, w.alloc (.cells pkZ 97) = W := ⟨_, rfl⟩
 have HW : Hid (w.alloc (.cells #[.int .i64 0, .int .i64 0, .bool false, .bool false, .int .i64 0, .int .i64 0, .int .i64 0, .int .u32 0, .int .u32 0, .slice none 0 0, .slice none 0 0] 97) = W) := Lib.hid hW
 have HK : Hid (Bk W w.heap.size 97 pkZ) := Lib.hid (by rw [← hW]; exact Bk.new _ _ _)
 have HB : Hid (Below w.heap.size w W) := Lib.hid (by rw [← hW]; exact (Below.refl _ _).alloc (Nat.le_refl _) _)
 clear hW h hn
 go_enter Tryz.func29, Tryz.ntmps29
 go_wp2_with fail
 rw [HW.out]
 refine (ipfail 2 _).mono ?_
 rintro e w1 ⟨rfl, hB1⟩
 have HK1 := Lib.hid (HK.out.below hB1 HK.out.lt)
 have HB1 := Lib.hid (HB.out.trans (hB1.mono HB.out.size))
 clear hB1
 go_wp2_with (refine st_box 97 rfl (.tmp 2) (.tmp 15) rfl rfl rfl (cs := pkZ) rfl HK1.out pk_size rfl pkZ_all ?_; intro w2 hb2 g2 z2)
 refine bodyPost_ret (results_b1 rfl _ _ w.heap.size 97 pkZ (0, 0) _ rfl hb2 Tryz.underlying97 rfl pk_size) rfl ?_
 exact ⟨none, 0, 0, none, 0, 0, (by rw [HE.out]; rfl), (fun e => by rw [HE.out] at e; cases e), HB1.out.grown g2 (by have := HB1.out.size; omega) (by intro i e; injection e with e; omega)⟩
set_option maxHeartbeats 4000000 in
set_option maxRecDepth 100000 in
theorem ipd_form (A : Option Addr) (n c B : Nat) (l : List Int) (hn : l.length = n) (h : 20 ≤ n) (hb : Bs l) (hf : at8 l 0 / 16 ≠ 4 ∨ ipHn l < 20) (w : World) (hr : RB w B A l) (hB : B ≤ w.heap.size) :
  Calls Tryz.prog 29 #[.slice A n c] w (IpDec l w) := by
 have HE : Hid (ipErr l = 3) := Lib.hid (by unfold ipErr; rw [if_neg (by omega), if_pos hf])
 have e1 : decide ((n : Int) < 20) = false := by simp; omega
 obtain ⟨W, hW⟩ : ∃ W, w.alloc (.cells pkZ 97) = W := ⟨_, rfl⟩
 have HW : Hid (w.alloc (.cells #[.int .i64 0, .int .i64 0, .bool false, .bool false, .int .i64 0, .int .i64 0, .int .i64 0, .int .u32 0, .int .u32 0, .slice none 0 0, .slice none 0 0] 97) = W) := Lib.hid hW
 have HK : Hid (Bk W w.heap.size 97 pkZ) := Lib.hid (by rw [← hW]; exact Bk.new _ _ _)
 have HB : Hid (Below w.heap.size w W) := Lib.hid (by rw [← hW]; exact (Below.refl _ _).alloc (Nat.le_refl _) _)
 have hr0 : RB W B A l := Rw.below hr (HB.out.mono hB)
 obtain ⟨b, o, rfl, hlt, hc⟩ := hr0.at_ (k := 0) (by omega)
 have hx0 := at8_bd hb 0
 obtain ⟨x, hxx⟩ : ∃ x, at8 l 0 = x := ⟨_, rfl⟩
 have hc0 : W.cell? ⟨b, o, none⟩ = some (.int .u8 x) := by rw [← hxx]; exact hc
 rw [hxx] at hx0
 have HX := Lib.hid hxx
 have hc1 : (w.alloc (.cells #[.int .i64 0, .int .i64 0, .bool false, .bool false, .int .i64 0, .int .i64 0, .int .i64 0, .int .u32 0, .int .u32 0, .slice none 0 0, .slice none 0 0] 97)).cell? ⟨b, o, none⟩ = some (.int .u8 x) := by rw [HW.out]; exact hc0
 have hix : ∀ w, (Instr.indexAt 37 (.slice (some ⟨b, o, none⟩) n c) (.int .i64 0)).run Tryz.prog w = .ok (.pointer (some ⟨b, o, none⟩)) w := fun w => ix0 b o n c (by omega) w
 obtain ⟨m, hm⟩ : ∃ m, x % 16 = m := ⟨_, rfl⟩
 have hand : bits .and .u8 x 15 = m := by rw [and_u8_15]; exact hm
 have hm16 : 0 ≤ m ∧ m < 16 := by omega
 have hwm : IntKind.i64.wrap m = m := IntWalk.i64_in _ (by omega)
 obtain ⟨nn, hnn⟩ : ∃ nn, ipHn l = nn := ⟨_, rfl⟩
 have hmn : m * 4 = (nn : Int) := by rw [← hnn, ← hm, ← hxx]; unfold ipHn; have := at8_bd hb 0; omega
 have hwm4 : IntKind.i64.wrap (m * 4) = (nn : Int) := by rw [IntWalk.i64_in _ (by omega)]; exact hmn
 have HNN := Lib.hid hnn
 have HF : x / 16 ≠ 4 ∨ (x / 16 = 4 ∧ ¬ (20 : Int) ≤ nn) := by
  rw [hxx, hnn] at hf
  omega
 clear hc hxx hm hf hn h hr hW hnn hmn hc0
 rcases HF with hq | ⟨hq, hq2⟩
 ·skip
  go_enter Tryz.func29, Tryz.ntmps29
  go_wp2_with fail
  rw [HW.out]
  refine (ipfail 3 _).mono ?_
  rintro e w1 ⟨rfl, hB1⟩
  have HK1 := Lib.hid (HK.out.below hB1 HK.out.lt)
  have HB1 := Lib.hid (HB.out.trans (hB1.mono HB.out.size))
  clear hB1
  go_wp2_with (refine st_box 97 rfl (.tmp 2) (.tmp 34) rfl rfl rfl (cs := pkZ) rfl HK1.out pk_size rfl pkZ_all ?_; intro w2 hb2 g2 z2)
  refine bodyPost_ret (results_b1 rfl _ _ w.heap.size 97 pkZ (0, 0) _ rfl hb2 Tryz.underlying97 rfl pk_size) rfl ?_
  exact ⟨none, 0, 0, none, 0, 0, (by rw [HE.out]; rfl), (fun e => by rw [HE.out] at e; cases e), HB1.out.grown g2 (by have := HB1.out.size; omega) (by intro i e; injection e with e; omega)⟩
 ·skip
  go_enter Tryz.func29, Tryz.ntmps29
  go_wp2_with fail
  rw [HW.out]
  refine (ipfail 3 _).mono ?_
  rintro e w1 ⟨rfl, hB1⟩
  have HK1 := Lib.hid (HK.out.below hB1 HK.out.lt)
  have HB1 := Lib.hid (HB.out.trans (hB1.mono HB.out.size))
  clear hB1
  go_wp2_with (refine st_box 97 rfl (.tmp 2) (.tmp 34) rfl rfl rfl (cs := pkZ) rfl HK1.out pk_size rfl pkZ_all ?_; intro w2 hb2 g2 z2)
  refine bodyPost_ret (results_b1 rfl _ _ w.heap.size 97 pkZ (0, 0) _ rfl hb2 Tryz.underlying97 rfl pk_size) rfl ?_
  exact ⟨none, 0, 0, none, 0, 0, (by rw [HE.out]; rfl), (fun e => by rw [HE.out] at e; cases e), HB1.out.grown g2 (by have := HB1.out.size; omega) (by intro i e; injection e with e; omega)⟩
set_option maxHeartbeats 4000000 in
set_option maxRecDepth 100000 in
theorem ipd_cut (A : Option Addr) (n c B : Nat) (l : List Int) (hn : l.length = n) (h : 20 ≤ n) (hb : Bs l) (hf : at8 l 0 / 16 = 4) (hg : 20 ≤ ipHn l) (hcut : n < ipHn l) (w : World) (hr : RB w B A l) (hB : B ≤ w.heap.size) :
  Calls Tryz.prog 29 #[.slice A n c] w (IpDec l w) := by
 have HE : Hid (ipErr l = 2) := Lib.hid (by unfold ipErr; rw [if_neg (by omega), if_neg (by omega), if_pos (by omega)])
 have e1 : decide ((n : Int) < 20) = false := by simp; omega
 obtain ⟨W, hW⟩ : ∃ W, w.alloc (.cells pkZ 97) = W := ⟨_, rfl⟩
 have HW : Hid (w.alloc (.cells #[.int .i64 0, .int .i64 0, .bool false, .bool false, .int .i64 0, .int .i64 0, .int .i64 0, .int .u32 0, .int .u32 0, .slice none 0 0, .slice none 0 0] 97) = W) := Lib.hid hW
 have HK : Hid (Bk W w.heap.size 97 pkZ) := Lib.hid (by rw [← hW]; exact Bk.new _ _ _)
 have HB : Hid (Below w.heap.size w W) := Lib.hid (by rw [← hW]; exact (Below.refl _ _).alloc (Nat.le_refl _) _)
 have hr0 : RB W B A l := Rw.below hr (HB.out.mono hB)
 obtain ⟨b, o, rfl, hlt, hc⟩ := hr0.at_ (k := 0) (by omega)
 have hx0 := at8_bd hb 0
 obtain ⟨x, hxx⟩ : ∃ x, at8 l 0 = x := ⟨_, rfl⟩
 have hc0 : W.cell? ⟨b, o, none⟩ = some (.int .u8 x) := by rw [← hxx]; exact hc
 rw [hxx] at hx0
 have HX := Lib.hid hxx
 have hc1 : (w.alloc (.cells #[.int .i64 0, .int .i64 0, .bool false, .bool false, .int .i64 0, .int .i64 0, .int .i64 0, .int .u32 0, .int .u32 0, .slice none 0 0, .slice none 0 0] 97)).cell? ⟨b, o, none⟩ = some (.int .u8 x) := by rw [HW.out]; exact hc0
 have hix : ∀ w, (Instr.indexAt 37 (.slice (some ⟨b, o, none⟩) n c) (.int .i64 0)).run Tryz.prog w = .ok (.pointer (some ⟨b, o, none⟩)) w := fun w => ix0 b o n c (by omega) w
 obtain ⟨m, hm⟩ : ∃ m, x % 16 = m := ⟨_, rfl⟩
 have hand : bits .and .u8 x 15 = m := by rw [and_u8_15]; exact hm
 have hm16 : 0 ≤ m ∧ m < 16 := by omega
 have hwm : IntKind.i64.wrap m = m := IntWalk.i64_in _ (by omega)
 obtain ⟨nn, hnn⟩ : ∃ nn, ipHn l = nn := ⟨_, rfl⟩
 have hmn : m * 4 = (nn : Int) := by rw [← hnn, ← hm, ← hxx]; unfold ipHn; have := at8_bd hb 0; omega
 have hwm4 : IntKind.i64.wrap (m * 4) = (nn : Int) := by rw [IntWalk.i64_in _ (by omega)]; exact hmn
 have HNN := Lib.hid hnn
 have hq : x / 16 = 4 := by rw [← hxx]; exact hf
 have hq2 : (20 : Int) ≤ nn := by omega
 have hq3 : (n : Int) < nn := by omega
 clear hc hxx hm hf hn h hr hW hnn hmn hg hcut hc0
 go_enter Tryz.func29, Tryz.ntmps29
 go_wp2_with fail
 rw [HW.out]
 refine (ipfail 2 _).mono ?_
 rintro e w1 ⟨rfl, hB1⟩
 have HK1 := Lib.hid (HK.out.below hB1 HK.out.lt)
 have HB1 := Lib.hid (HB.out.trans (hB1.mono HB.out.size))
 clear hB1
 go_wp2_with (refine st_box 97 rfl (.tmp 2) (.tmp 42) rfl rfl rfl (cs := pkZ) rfl HK1.out pk_size rfl pkZ_all ?_; intro w2 hb2 g2 z2)
 refine bodyPost_ret (results_b1 rfl _ _ w.heap.size 97 pkZ (0, 0) _ rfl hb2 Tryz.underlying97 rfl pk_size) rfl ?_
 exact ⟨none, 0, 0, none, 0, 0, (by rw [HE.out]; rfl), (fun e => by rw [HE.out] at e; cases e), HB1.out.grown g2 (by have := HB1.out.size; omega) (by intro i e; injection e with e; omega)⟩
structure IpSt (w0 : World) (base B g gp : Nat) (A : Option Addr) (l : List Int) (k : Nat) (row : Array Value) (W : World) : Prop where
 rd : Rd W base g (l.drop k) 0
 mp : Bk W gp 97 row
 ak : Bk W w0.heap.size 97 pkZ
 bl : Below w0.heap.size w0 W
 rb : RB W B A l
 og : w0.heap.size < g ∧ g < gp ∧ base ≤ gp ∧ B ≤ w0.heap.size
theorem IpSt.lt {w0 W : World} {base B g gp k : Nat} {A : Option Addr} {l : List Int} {row : Array Value} (s : IpSt w0 base B g gp A l k row W) : base ≤ W.heap.size := Nat.le_trans s.og.2.2.1 (Nat.le_of_lt s.mp.lt)
theorem IpSt.read {w0 W W' : World} {base B g gp k k' : Nat} {A : Option Addr} {l : List Int} {row : Array Value} (s : IpSt w0 base B g gp A l k row W) (hR : Rd W' base g (l.drop k') 0) (hg : W.grownBy W' (some g)) : IpSt w0 base B g gp A l k' row W' := by
 have o := s.og
 have hb : Below w0.heap.size W W' := (Below.refl _ W).grown hg (Nat.le_of_lt (Nat.lt_of_lt_of_le (by omega : w0.heap.size < gp) (Nat.le_of_lt s.mp.lt))) (by intro i e; injection e with e; omega)
 exact ⟨hR, s.mp.grown hg (by intro e; injection e with e; omega), s.ak.grown hg (by intro e; injection e with e; omega), s.bl.trans hb, Rw.below s.rb (hb.mono o.2.2.2), o⟩
theorem IpSt.store {w0 W : World} {base B g gp k : Nat} {A : Option Addr} {l : List Int} {row : Array Value} (s : IpSt w0 base B g gp A l k row W) (i : Nat) (v : Value) : IpSt w0 base B g gp A l k (row.setIfInBounds i v) (W.setCell ⟨gp, i, none⟩ v) := by
 have o := s.og
 have hb : Below w0.heap.size W (W.setCell ⟨gp, i, none⟩ v) := (Below.refl _ W).setCell (p := ⟨gp, i, none⟩) (show w0.heap.size ≤ gp by omega) _
 exact ⟨s.rd.store s.mp (by decide) (by decide) (by decide) i v, s.mp.set i v, s.ak.far (p := ⟨gp, i, none⟩) (show w0.heap.size ≠ gp by omega) _, s.bl.trans hb, Rw.below s.rb (hb.mono o.2.2.2), o⟩
theorem IpSt.cell {w0 W : World} {base B g gp k : Nat} {A : Option Addr} {l : List Int} {row : Array Value} (s : IpSt w0 base B g gp A l k row W) (i : Nat) : W.cell? ⟨gp, i, none⟩ = row[i]? := s.mp.cell i
theorem IpSt.below {w0 W W' : World} {base B g gp k : Nat} {A : Option Addr} {l : List Int} {row : Array Value} (s : IpSt w0 base B g gp A l k row W) (hb : Below W.heap.size W W') : IpSt w0 base B g gp A l k row W' :=
 ⟨s.rd.below hb, s.mp.below hb s.mp.lt, s.ak.below hb s.ak.lt, s.bl.trans (hb.mono s.bl.size), Rw.below s.rb (hb.mono (Nat.le_trans s.og.2.2.2 s.bl.size)), s.og⟩
theorem IpSt.fin {w0 W W2 : World} {base B g gp k : Nat} {A : Option Addr} {l : List Int} {row : Array Value} (s : IpSt w0 base B g gp A l k row W) (g2 : W.grownBy W2 (some w0.heap.size)) : Below w0.heap.size w0 W2 :=
 s.bl.grown g2 s.bl.size (by intro i e; injection e with e; omega)
set_option maxHeartbeats 4000000 in
set_option maxRecDepth 100000 in
theorem ipd_long (A : Option Addr) (n c B : Nat) (l : List Int) (hn : l.length = n) (hcp : n ≤ c) (h : 20 ≤ n) (hmax : n ≤ 1000000) (hb : Bs l) (hf : at8 l 0 / 16 = 4) (hg : 20 ≤ ipHn l) (hcut : ipHn l ≤ n) (w : World) (hr : RB w B A l) (hB : B ≤ w.heap.size) :
  Calls Tryz.prog 29 #[.slice A n c] w (IpDec l w) := by
 have HE0 : Hid (ipErr l = if ipWh l < ipHn l then 3 else if l.length < ipWh l then 2 else if sumOf (l.take (ipHn l)) ≠ 0 then 4 else if rd2 l 6 / 32768 ≠ 0 ∨ goodO (ipOl l) = false then 3 else if ¬ fitsP (ipP l).off (ipOl l).length (ipDl l).length then 5 else 0) := Lib.hid (by unfold ipErr; rw [if_neg (by omega), if_neg (by omega), if_neg (by omega)])
 have e1 : decide ((n : Int) < 20) = false := by simp; omega
 obtain ⟨W, hW⟩ : ∃ W, w.alloc (.cells pkZ 97) = W := ⟨_, rfl⟩
 have HW : Hid (w.alloc (.cells #[.int .i64 0, .int .i64 0, .bool false, .bool false, .int .i64 0, .int .i64 0, .int .i64 0, .int .u32 0, .int .u32 0, .slice none 0 0, .slice none 0 0] 97) = W) := Lib.hid hW
 have HK : Hid (Bk W w.heap.size 97 pkZ) := Lib.hid (by rw [← hW]; exact Bk.new _ _ _)
 have HB : Hid (Below w.heap.size w W) := Lib.hid (by rw [← hW]; exact (Below.refl _ _).alloc (Nat.le_refl _) _)
 have hr0 : RB W B A l := Rw.below hr (HB.out.mono hB)
 obtain ⟨b, o, rfl, hlt, hc⟩ := hr0.at_ (k := 0) (by omega)
 have hx0 := at8_bd hb 0
 obtain ⟨x, hxx⟩ : ∃ x, at8 l 0 = x := ⟨_, rfl⟩
 have hc0 : W.cell? ⟨b, o, none⟩ = some (.int .u8 x) := by rw [← hxx]; exact hc
 rw [hxx] at hx0
 have HX := Lib.hid hxx
 have hc1 : (w.alloc (.cells #[.int .i64 0, .int .i64 0, .bool false, .bool false, .int .i64 0, .int .i64 0, .int .i64 0, .int .u32 0, .int .u32 0, .slice none 0 0, .slice none 0 0] 97)).cell? ⟨b, o, none⟩ = some (.int .u8 x) := by rw [HW.out]; exact hc0
 have hix : ∀ w, (Instr.indexAt 37 (.slice (some ⟨b, o, none⟩) n c) (.int .i64 0)).run Tryz.prog w = .ok (.pointer (some ⟨b, o, none⟩)) w := fun w => ix0 b o n c (by omega) w
 obtain ⟨m, hm⟩ : ∃ m, x % 16 = m := ⟨_, rfl⟩
 have hand : bits .and .u8 x 15 = m := by rw [and_u8_15]; exact hm
 have hm16 : 0 ≤ m ∧ m < 16 := by omega
 have hwm : IntKind.i64.wrap m = m := IntWalk.i64_in _ (by omega)
 obtain ⟨nn, hnn⟩ : ∃ nn, ipHn l = nn := ⟨_, rfl⟩
 have hmn : m * 4 = (nn : Int) := by rw [← hnn, ← hm, ← hxx]; unfold ipHn; have := at8_bd hb 0; omega
 have hwm4 : IntKind.i64.wrap (m * 4) = (nn : Int) := by rw [IntWalk.i64_in _ (by omega)]; exact hmn
 have HNN := Lib.hid hnn
 have hq : x / 16 = 4 := by rw [← hxx]; exact hf
 have hq2 : (20 : Int) ≤ nn := by omega
 have hq3 : (nn : Int) ≤ n := by omega
 have hcap : (nn : Int) ≤ c := by omega
 have HN := Lib.hid hn
 have HLE : Hid (20 ≤ nn ∧ nn ≤ n ∧ 20 ≤ n ∧ n ≤ 1000000) := Lib.hid ⟨by omega, by omega, h, hmax⟩
 have HZ : Hid (W.heap.size = w.heap.size + 1) := Lib.hid (by rw [← hW]; simp)
 clear hc hxx hm hf hn h hr hW hnn hmn hg hcut hc0 hmax hcp
 go_enter Tryz.func29, Tryz.ntmps29
 go_wp2_with fail
 rw [HW.out]
 refine (newreader_any _ n c B l HN.out (by have := HLE.out; omega) hb _ hr0 (by have := HZ.out; omega)).mono ?_
 rintro e W1 ⟨g, rfl, hR1, hB1⟩
 have hge := hR1.ge
 have hk1 := HK.out.below hB1 HK.out.lt
 have hrb1 : RB W1 B (some ⟨b, o, none⟩) l := Rw.below hr0 (hB1.mono (by have := HZ.out; omega))
 have hbl1 := HB.out.trans (hB1.mono HB.out.size)
 rw [show l = l.drop 0 from rfl] at hR1
 clear hB1 hr0
 go_wp2_with fail
 refine (byte_at W.heap.size g l 0 (by rw [HN.out]; have := HLE.out; omega) _ hR1 (by have := hbl1.size; have := hR1.lt; omega)).mono ?_
 rintro e W2 ⟨rfl, hR2, k2⟩
 have hg2 : g < W2.heap.size := hR2.lt
 obtain ⟨gp, hgp⟩ : ∃ gp, W2.heap.size = gp := ⟨_, rfl⟩
 obtain ⟨W3, hW3⟩ : ∃ W3, W2.alloc (.cells pkZ 97) = W3 := ⟨_, rfl⟩
 have hb3 : Below W2.heap.size W2 W3 := by rw [← hW3]; exact (Below.refl _ _).alloc (Nat.le_refl _) _
 have hbl2 : Below w.heap.size w W2 := hbl1.grown k2 hbl1.size (by intro i e; injection e with e; have := HZ.out; omega)
 have S3 : IpSt w W.heap.size B g gp (some ⟨b, o, none⟩) l 1 #[.int .i64 0, .int .i64 0, .bool false, .bool false, .int .i64 0, .int .i64 0, .int .i64 0, .int .u32 0, .int .u32 0, .slice none 0 0, .slice none 0 0] W3 := by
  refine ⟨hR2.below hb3, ?_, (hk1.grown k2 (by intro e; injection e with e; have := HZ.out; omega)).below hb3 (by have := HZ.out; omega), hbl2.trans (hb3.mono hbl2.size), ?_, by have := HZ.out; omega⟩
  ·rw [← hW3, ← hgp]; exact Bk.new _ _ _
  ·have hb12 : Below w.heap.size W1 W2 := (Below.refl _ W1).grown k2 hbl1.size (by intro i e; injection e with e; have := HZ.out; omega)
   exact Rw.below (Rw.below hrb1 (hb12.mono hB)) (hb3.mono (by have := hbl2.size; omega))
 have HW3 : Hid (W2.alloc (.cells #[.int .i64 0, .int .i64 0, .bool false, .bool false, .int .i64 0, .int .i64 0, .int .i64 0, .int .u32 0, .int .u32 0, .slice none 0 0, .slice none 0 0] 97) = W3) := Lib.hid hW3
 have HGP := Lib.hid hgp
 have HS3 := Lib.hid S3
 have HO : Hid (w.heap.size < g ∧ g < gp) := Lib.hid ⟨S3.og.1, S3.og.2.1⟩
 clear hW3 hgp hb3 hbl2 hk1 hrb1 hbl1 hge hR1 hR2 k2 hg2 S3
 go_wp2_with fail
 rw [HW3.out, HGP.out]
 refine (byte_at W.heap.size g l 1 (by rw [HN.out]; have := HLE.out; omega) _ HS3.out.rd HS3.out.lt).mono ?_
 rintro e W4 ⟨rfl, hR, hk⟩
 have HS4 := Lib.hid (HS3.out.read hR hk)
 obtain ⟨sv, hsv⟩ : ∃ x, at8 l 1 = x := ⟨_, rfl⟩
 rw [hsv]
 have Hsv := Lib.hid hsv
 have Bsv := at8_bd hb 1
 rw [hsv] at Bsv
 have HBsv := Lib.hid Bsv
 clear hR hk hsv Bsv
 have c4_0 : W4.cell? ⟨gp, 0, none⟩ = some (.int .i64 0) := HS4.out.cell 0
 have f4_0 := HS4.out.mp.frozen 0
 obtain ⟨W5, hW5⟩ : ∃ x, W4.setCell ⟨gp, 0, none⟩ (.int .i64 sv) = x := ⟨_, rfl⟩
 have HS5 : Hid (IpSt w W.heap.size B g gp (some ⟨b, o, none⟩) l 2 #[.int .i64 sv, .int .i64 0, .bool false, .bool false, .int .i64 0, .int .i64 0, .int .i64 0, .int .u32 0, .int .u32 0, .slice none 0 0, .slice none 0 0] W5) := Lib.hid (by rw [← hW5]; exact HS4.out.store 0 _)
 have HW5 := Lib.hid hW5
 clear hW5
 go_wp2_with fail
 rw [HW5.out]
 refine (two_at W.heap.size g l 2 (by rw [HN.out]; have := HLE.out; omega) _ HS5.out.rd HS5.out.lt).mono ?_
 rintro e W6 ⟨rfl, hR, hk⟩
 have HS6 := Lib.hid (HS5.out.read hR hk)
 obtain ⟨wv, hwv⟩ : ∃ x, rd2 l 2 = x := ⟨_, rfl⟩
 rw [hwv]
 have Hwv := Lib.hid hwv
 have Bwv := rd2_bd hb 2
 rw [hwv] at Bwv
 have HBwv := Lib.hid Bwv
 clear hR hk hwv Bwv
 clear c4_0 f4_0
 have HWV : Hid (ipWh l = wv.toNat) := Lib.hid (by unfold ipWh; rw [Hwv.out])
 rcases Int.lt_or_le wv nn with r1 | r1
 ·as_aux_lemma =>
  have HE : Hid (ipErr l = 3) := Lib.hid (by rw [HE0.out, if_pos (by rw [HWV.out, HNN.out]; have := HBwv.out; omega)])
  go_wp2_with fail
  refine (ipfail 3 _).mono ?_
  rintro e w1 ⟨rfl, hB1⟩
  have HS := Lib.hid (HS6.out.below hB1)
  clear hB1
  go_wp2_with (refine st_box 97 rfl (.tmp 2) (.tmp 58) rfl rfl rfl (cs := pkZ) rfl HS.out.ak pk_size rfl pkZ_all ?_; intro w2 hb2 g2 z2)
  refine bodyPost_ret (results_b1 rfl _ _ w.heap.size 97 pkZ (0, 0) _ rfl hb2 Tryz.underlying97 rfl pk_size) rfl ?_
  exact ⟨none, 0, 0, none, 0, 0, (by rw [HE.out]; rfl), (fun e => by rw [HE.out] at e; cases e), HS.out.fin g2⟩
 ·skip
  rcases Int.lt_or_le n wv with r2 | r2
  ·as_aux_lemma =>
   have HE : Hid (ipErr l = 2) := Lib.hid (by rw [HE0.out, if_neg (by rw [HWV.out, HNN.out]; have := HBwv.out; omega), if_pos (by rw [HWV.out, HN.out]; omega)])
   go_wp2_with fail
   refine (ipfail 2 _).mono ?_
   rintro e w1 ⟨rfl, hB1⟩
   have HS := Lib.hid (HS6.out.below hB1)
   clear hB1
   go_wp2_with (refine st_box 97 rfl (.tmp 2) (.tmp 66) rfl rfl rfl (cs := pkZ) rfl HS.out.ak pk_size rfl pkZ_all ?_; intro w2 hb2 g2 z2)
   refine bodyPost_ret (results_b1 rfl _ _ w.heap.size 97 pkZ (0, 0) _ rfl hb2 Tryz.underlying97 rfl pk_size) rfl ?_
   exact ⟨none, 0, 0, none, 0, 0, (by rw [HE.out]; rfl), (fun e => by rw [HE.out] at e; cases e), HS.out.fin g2⟩
  ·skip
   go_wp2_with fail
   have HIW : Hid (¬ ipWh l < ipHn l ∧ ¬ l.length < ipWh l) := Lib.hid ⟨by rw [HWV.out, HNN.out]; have := HBwv.out; omega, by rw [HWV.out, HN.out]; have := HBwv.out; omega⟩
   obtain ⟨sm, hsm⟩ : ∃ s, sumOf (l.take nn) = s := ⟨_, rfl⟩
   have HSM := Lib.hid hsm
   refine (sumv_any _ nn _ B (l.take nn) sm hsm (by rw [List.length_take, HN.out]; have := HLE.out; omega) (by have := HLE.out; omega) (hb.take nn) _ (RB.take HS6.out.rb nn)).mono ?_
   rintro e w7 ⟨rfl, rfl⟩
   clear hsm
   by_cases r3 : sm = 0
   rotate_left
   ·as_aux_lemma =>
    have HE : Hid (ipErr l = 4) := Lib.hid (by rw [HE0.out, if_neg HIW.out.1, if_neg HIW.out.2, HNN.out, if_pos (by rw [HSM.out]; exact r3)])
    go_wp2_with fail
    refine (ipfail 4 _).mono ?_
    rintro e w1 ⟨rfl, hB1⟩
    have HS := Lib.hid (HS6.out.below hB1)
    clear hB1
    go_wp2_with (refine st_box 97 rfl (.tmp 2) (.tmp 75) rfl rfl rfl (cs := pkZ) rfl HS.out.ak pk_size rfl pkZ_all ?_; intro w2 hb2 g2 z2)
    refine bodyPost_ret (results_b1 rfl _ _ w.heap.size 97 pkZ (0, 0) _ rfl hb2 Tryz.underlying97 rfl pk_size) rfl ?_
    exact ⟨none, 0, 0, none, 0, 0, (by rw [HE.out]; rfl), (fun e => by rw [HE.out] at e; cases e), HS.out.fin g2⟩
   go_wp2_with fail
   refine (two_at W.heap.size g l 4 (by rw [HN.out]; have := HLE.out; omega) _ HS6.out.rd HS6.out.lt).mono ?_
   rintro e W7 ⟨rfl, hR, hk⟩
   have HS7 := Lib.hid (HS6.out.read hR hk)
   obtain ⟨idv, hidv⟩ : ∃ x, rd2 l 4 = x := ⟨_, rfl⟩
   rw [hidv]
   have Hidv := Lib.hid hidv
   have Bidv := rd2_bd hb 4
   rw [hidv] at Bidv
   have HBidv := Lib.hid Bidv
   clear hR hk hidv Bidv
   have c7_1 : W7.cell? ⟨gp, 1, none⟩ = some (.int .i64 0) := HS7.out.cell 1
   have f7_1 := HS7.out.mp.frozen 1
   obtain ⟨W8, hW8⟩ : ∃ x, W7.setCell ⟨gp, 1, none⟩ (.int .i64 idv) = x := ⟨_, rfl⟩
   have HS8 : Hid (IpSt w W.heap.size B g gp (some ⟨b, o, none⟩) l 6 #[.int .i64 sv, .int .i64 idv, .bool false, .bool false, .int .i64 0, .int .i64 0, .int .i64 0, .int .u32 0, .int .u32 0, .slice none 0 0, .slice none 0 0] W8) := Lib.hid (by rw [← hW8]; exact HS7.out.store 1 _)
   have HW8 := Lib.hid hW8
   clear hW8
   go_wp2_with fail
   rw [HW8.out]
   refine (two_at W.heap.size g l 6 (by rw [HN.out]; have := HLE.out; omega) _ HS8.out.rd HS8.out.lt).mono ?_
   rintro e W9 ⟨rfl, hR, hk⟩
   have HS9 := Lib.hid (HS8.out.read hR hk)
   obtain ⟨bt, hbt⟩ : ∃ x, rd2 l 6 = x := ⟨_, rfl⟩
   rw [hbt]
   have Hbt := Lib.hid hbt
   have Bbt := rd2_bd hb 6
   rw [hbt] at Bbt
   have HBbt := Lib.hid Bbt
   clear hR hk hbt Bbt
   clear c7_1 f7_1
   obtain ⟨y1, hy1⟩ : ∃ y, bits .and .i64 bt 16384 = y := ⟨_, rfl⟩
   obtain ⟨y2, hy2⟩ : ∃ y, bits .and .i64 bt 8192 = y := ⟨_, rfl⟩
   obtain ⟨y3, hy3⟩ : ∃ y, bits .and .i64 bt 8191 = y := ⟨_, rfl⟩
   have hy3' : y3 = bt % 8192 := by rw [← hy3]; exact and_i64_8191 bt
   have hw8 : IntKind.i64.wrap (y3 * 8) = y3 * 8 := IntWalk.i64_in _ (by have := HBbt.out; omega)
   have HY3 := Lib.hid hy3'
   clear hy3'
   have c9_2 : W9.cell? ⟨gp, 2, none⟩ = some (.bool false) := HS9.out.cell 2
   have f9_2 := HS9.out.mp.frozen 2
   have c9_3 : W9.cell? ⟨gp, 3, none⟩ = some (.bool false) := HS9.out.cell 3
   have f9_3 := HS9.out.mp.frozen 3
   have c9_4 : W9.cell? ⟨gp, 4, none⟩ = some (.int .i64 0) := HS9.out.cell 4
   have f9_4 := HS9.out.mp.frozen 4
   go_wp2_with fail
   obtain ⟨W10, hW⟩ : ∃ x, (((W9.setCell ⟨gp, 2, none⟩ (.bool (y1 != 0))).setCell ⟨gp, 3, none⟩ (.bool (y2 != 0))).setCell ⟨gp, 4, none⟩ (.int .i64 (y3 * 8))) = x := ⟨_, rfl⟩
   have HS10 : Hid (IpSt w W.heap.size B g gp (some ⟨b, o, none⟩) l 8 #[.int .i64 sv, .int .i64 idv, .bool (y1 != 0), .bool (y2 != 0), .int .i64 (y3 * 8), .int .i64 0, .int .i64 0, .int .u32 0, .int .u32 0, .slice none 0 0, .slice none 0 0] W10) := Lib.hid (by rw [← hW]; exact ((HS9.out.store 2 _).store 3 _).store 4 _)
   rw [hW]
   clear hW
   clear c9_2 f9_2 c9_3 f9_3 c9_4 f9_4
   refine (byte_at W.heap.size g l 8 (by rw [HN.out]; have := HLE.out; omega) _ HS10.out.rd HS10.out.lt).mono ?_
   rintro e W11 ⟨rfl, hR, hk⟩
   have HS11 := Lib.hid (HS10.out.read hR hk)
   obtain ⟨lf, hlf⟩ : ∃ x, at8 l 8 = x := ⟨_, rfl⟩
   rw [hlf]
   have Hlf := Lib.hid hlf
   have Blf := at8_bd hb 8
   rw [hlf] at Blf
   have HBlf := Lib.hid Blf
   clear hR hk hlf Blf
   go_wp2_with fail
   refine (byte_at W.heap.size g l 9 (by rw [HN.out]; have := HLE.out; omega) _ HS11.out.rd HS11.out.lt).mono ?_
   rintro e W12 ⟨rfl, hR, hk⟩
   have HS12 := Lib.hid (HS11.out.read hR hk)
   obtain ⟨pr, hpr⟩ : ∃ x, at8 l 9 = x := ⟨_, rfl⟩
   rw [hpr]
   have Hpr := Lib.hid hpr
   have Bpr := at8_bd hb 9
   rw [hpr] at Bpr
   have HBpr := Lib.hid Bpr
   clear hR hk hpr Bpr
   have c12_5 : W12.cell? ⟨gp, 5, none⟩ = some (.int .i64 0) := HS12.out.cell 5
   have f12_5 := HS12.out.mp.frozen 5
   have c12_6 : W12.cell? ⟨gp, 6, none⟩ = some (.int .i64 0) := HS12.out.cell 6
   have f12_6 := HS12.out.mp.frozen 6
   go_wp2_with fail
   obtain ⟨W13, hW⟩ : ∃ x, ((W12.setCell ⟨gp, 5, none⟩ (.int .i64 lf)).setCell ⟨gp, 6, none⟩ (.int .i64 pr)) = x := ⟨_, rfl⟩
   have HS13 : Hid (IpSt w W.heap.size B g gp (some ⟨b, o, none⟩) l 10 #[.int .i64 sv, .int .i64 idv, .bool (y1 != 0), .bool (y2 != 0), .int .i64 (y3 * 8), .int .i64 lf, .int .i64 pr, .int .u32 0, .int .u32 0, .slice none 0 0, .slice none 0 0] W13) := Lib.hid (by rw [← hW]; exact (HS12.out.store 5 _).store 6 _)
   rw [hW]
   clear hW
   clear c12_5 f12_5 c12_6 f12_6
   refine (two_at W.heap.size g l 10 (by rw [HN.out]; have := HLE.out; omega) _ HS13.out.rd HS13.out.lt).mono ?_
   rintro e W14 ⟨rfl, hR, hk⟩
   have HS14 := Lib.hid (HS13.out.read hR hk)
   clear hR hk
   go_wp2_with fail
   refine (four_at W.heap.size g l 12 (by rw [HN.out]; have := HLE.out; omega) _ HS14.out.rd HS14.out.lt).mono ?_
   rintro e W15 ⟨rfl, hR, hk⟩
   have HS15 := Lib.hid (HS14.out.read hR hk)
   obtain ⟨sr, hsr⟩ : ∃ x, rd4 l 12 = x := ⟨_, rfl⟩
   rw [hsr]
   have Hsr := Lib.hid hsr
   have Bsr := rd4_bd hb 12
   rw [hsr] at Bsr
   have HBsr := Lib.hid Bsr
   clear hR hk hsr Bsr
   go_wp2_with fail
   refine (four_at W.heap.size g l 16 (by rw [HN.out]; have := HLE.out; omega) _ HS15.out.rd HS15.out.lt).mono ?_
   rintro e W16 ⟨rfl, hR, hk⟩
   have HS16 := Lib.hid (HS15.out.read hR hk)
   obtain ⟨ds, hds⟩ : ∃ x, rd4 l 16 = x := ⟨_, rfl⟩
   rw [hds]
   have Hds := Lib.hid hds
   have Bds := rd4_bd hb 16
   rw [hds] at Bds
   have HBds := Lib.hid Bds
   clear hR hk hds Bds
   have c16_7 : W16.cell? ⟨gp, 7, none⟩ = some (.int .u32 0) := HS16.out.cell 7
   have f16_7 := HS16.out.mp.frozen 7
   have c16_8 : W16.cell? ⟨gp, 8, none⟩ = some (.int .u32 0) := HS16.out.cell 8
   have f16_8 := HS16.out.mp.frozen 8
   obtain ⟨q, hq9⟩ : ∃ q, q = nn - 20 := ⟨_, rfl⟩
   have hwq : IntKind.i64.wrap ((nn : Int) - 20) = (q : Int) := by rw [IntWalk.i64_in _ (by have := HLE.out; omega)]; have := HLE.out; omega
   have HQ9 := Lib.hid hq9
   clear hq9
   go_wp2_with fail
   obtain ⟨W17, hW⟩ : ∃ x, ((W16.setCell ⟨gp, 7, none⟩ (.int .u32 sr)).setCell ⟨gp, 8, none⟩ (.int .u32 ds)) = x := ⟨_, rfl⟩
   have HS17 : Hid (IpSt w W.heap.size B g gp (some ⟨b, o, none⟩) l 20 #[.int .i64 sv, .int .i64 idv, .bool (y1 != 0), .bool (y2 != 0), .int .i64 (y3 * 8), .int .i64 lf, .int .i64 pr, .int .u32 sr, .int .u32 ds, .slice none 0 0, .slice none 0 0] W17) := Lib.hid (by rw [← hW]; exact (HS16.out.store 7 _).store 8 _)
   rw [hW]
   clear hW
   clear c16_7 f16_7 c16_8 f16_8
   refine (raw_at W.heap.size g l 20 q (by rw [HN.out]; have := HLE.out; have := HQ9.out; omega) (by rw [HN.out]; have := HLE.out; omega) _ HS17.out.rd HS17.out.lt).mono ?_
   rintro e W18 ⟨A9, n9, c9, rfl, hO9, hR, hk⟩
   rw [show 20 + q = nn by have := HLE.out; have := HQ9.out; omega] at hR
   have HS18 := Lib.hid (HS17.out.read hR hk)
   have HO9 := Lib.hid hO9
   clear hR hk hO9
   have c18_9 : W18.cell? ⟨gp, 9, none⟩ = some (.slice none 0 0) := HS18.out.cell 9
   have f18_9 := HS18.out.mp.frozen 9
   obtain ⟨W19, hW19⟩ : ∃ x, W18.setCell ⟨gp, 9, none⟩ (.slice A9 n9 c9) = x := ⟨_, rfl⟩
   have HS19 : Hid (IpSt w W.heap.size B g gp (some ⟨b, o, none⟩) l nn #[.int .i64 sv, .int .i64 idv, .bool (y1 != 0), .bool (y2 != 0), .int .i64 (y3 * 8), .int .i64 lf, .int .i64 pr, .int .u32 sr, .int .u32 ds, .slice A9 n9 c9, .slice none 0 0] W19) := Lib.hid (by rw [← hW19]; exact HS18.out.store 9 _)
   have HW19 := Lib.hid hW19
   clear hW19
   obtain ⟨r, hr9⟩ : ∃ r, r = (wv - nn).toNat := ⟨_, rfl⟩
   have hwr : IntKind.i64.wrap (wv - (nn : Int)) = (r : Int) := by rw [IntWalk.i64_in _ (by have := HLE.out; have := HBwv.out; omega)]; omega
   have HR9 : Hid (r = ipWh l - nn) := Lib.hid (by rw [HWV.out]; omega)
   have HR8 : Hid (nn + r ≤ n) := Lib.hid (by omega)
   clear hr9
   go_wp2_with fail
   rw [HW19.out]
   have hb9 : A9 = none ∨ blk A9 ≠ some gp := .inr (Ne.symm (HS18.out.mp.ow_ne HO9.out (by decide)))
   have HO9' : Hid (OB 5 W19 W17.heap.size A9 n9 c9 ((l.drop 20).take q)) := Lib.hid (by rw [← HW19.out]; exact Ow.setCell HO9.out (p := ⟨gp, 9, none⟩) (Ne.symm (HS18.out.mp.ow_ne HO9.out (by decide))) _)
   refine (raw_at W.heap.size g l nn r (by rw [HN.out]; exact HR8.out) (by rw [HN.out]; have := HLE.out; omega) _ HS19.out.rd HS19.out.lt).mono ?_
   rintro e W20 ⟨A10, n10, c10, rfl, hO10, hR, hk⟩
   have HO9'' : Hid (OB 5 W20 w.heap.size A9 n9 c9 ((l.drop 20).take q)) := Lib.hid (by
    obtain ⟨_, _, _, _, _, _, _, hbr, _⟩ := HS19.out.rd
    exact Ow.mono (Ow.kept HO9'.out hk (.inr (Ne.symm (hbr.ow_ne HO9'.out (by decide))))) HS17.out.bl.size)
   have HS20 := Lib.hid (HS19.out.read hR hk)
   have HO10 := Lib.hid (Ow.mono hO10 HS19.out.bl.size)
   clear hR hk hO10 hb9
   have c20_10 : W20.cell? ⟨gp, 10, none⟩ = some (.slice none 0 0) := HS20.out.cell 10
   have f20_10 := HS20.out.mp.frozen 10
   obtain ⟨W21, hW21⟩ : ∃ x, W20.setCell ⟨gp, 10, none⟩ (.slice A10 n10 c10) = x := ⟨_, rfl⟩
   have HS21 : Hid (IpSt w W.heap.size B g gp (some ⟨b, o, none⟩) l (nn + r) #[.int .i64 sv, .int .i64 idv, .bool (y1 != 0), .bool (y2 != 0), .int .i64 (y3 * 8), .int .i64 lf, .int .i64 pr, .int .u32 sr, .int .u32 ds, .slice A9 n9 c9, .slice A10 n10 c10] W21) := Lib.hid (by rw [← hW21]; exact HS20.out.store 10 _)
   have HW21 := Lib.hid hW21
   clear hW21
   have HS : Hid (IpSt w W.heap.size B g gp (some ⟨b, o, none⟩) l (nn + r) #[.int .i64 sv, .int .i64 idv, .bool (y1 != 0), .bool (y2 != 0), .int .i64 (y3 * 8), .int .i64 lf, .int .i64 pr, .int .u32 sr, .int .u32 ds, .slice A9 n9 c9, .slice A10 n10 c10] (W20.setCell ⟨gp, 10, none⟩ (.slice A10 n10 c10))) := Lib.hid (by rw [HW21.out]; exact HS21.out)
   have HOA : Hid (OB 5 W21 w.heap.size A9 n9 c9 (ipOl l)) := Lib.hid (by
    rw [← HW21.out]
    have h1 := Ow.setCell HO9''.out (p := ⟨gp, 10, none⟩) (Ne.symm (HS20.out.mp.ow_ne HO9''.out (by decide))) (.slice A10 n10 c10)
    unfold ipOl
    rw [HNN.out, ← HQ9.out]
    exact h1)
   have HOB : Hid (OB 5 W21 w.heap.size A10 n10 c10 (ipDl l)) := Lib.hid (by
    rw [← HW21.out]
    have h1 := Ow.setCell HO10.out (p := ⟨gp, 10, none⟩) (Ne.symm (HS20.out.mp.ow_ne HO10.out (by decide))) (.slice A10 n10 c10)
    unfold ipDl
    rw [HNN.out, ← HR9.out]
    exact h1)
   have HER : Hid (∀ k : Int, (if rd2 l 6 / 32768 ≠ 0 ∨ goodO (ipOl l) = false then 3 else if ¬ fitsP (ipP l).off (ipOl l).length (ipDl l).length then 5 else (0 : Int)) = k → ipErr l = k) := Lib.hid (fun k hk => by
    rw [HE0.out, if_neg HIW.out.1, if_neg HIW.out.2, HNN.out, if_neg (by rw [HSM.out]; exact fun e => e r3)]
    exact hk)
   have HPK : Hid (#[.int .i64 sv, .int .i64 idv, .bool (y1 != 0), .bool (y2 != 0), .int .i64 (y3 * 8), .int .i64 lf, .int .i64 pr, .int .u32 sr, .int .u32 ds, .slice A9 n9 c9, .slice A10 n10 c10] = pkC (ipP l) (.slice A9 n9 c9) (.slice A10 n10 c10)) := Lib.hid (by
    unfold pkC ipP
    simp only []
    rw [Hsv.out, Hidv.out, Hbt.out, Hlf.out, Hpr.out, Hsr.out, Hds.out, HY3.out, ← hy1, ← hy2])
   clear c18_9 f18_9
   have HBT0 := HBbt.out
   by_cases r4 : bt / 32768 = 0
   rotate_left
   ·as_aux_lemma =>
    have HE : Hid (ipErr l = 3) := Lib.hid (HER.out 3 (if_pos (.inl (by rw [Hbt.out]; exact r4))))
    go_wp2_with fail
    rw [HW21.out]
    refine (ipfail 3 _).mono ?_
    rintro e w1 ⟨rfl, hB1⟩
    have HS := Lib.hid (HS21.out.below hB1)
    clear hB1
    go_wp2_with (refine st_box 97 rfl (.tmp 2) (.tmp 130) rfl rfl rfl (cs := pkZ) rfl HS.out.ak pk_size rfl pkZ_all ?_; intro w2 hb2 g2 z2)
    refine bodyPost_ret (results_b1 rfl _ _ w.heap.size 97 pkZ (0, 0) _ rfl hb2 Tryz.underlying97 rfl pk_size) rfl ?_
    exact ⟨none, 0, 0, none, 0, 0, (by rw [HE.out]; rfl), (fun e => by rw [HE.out] at e; cases e), HS.out.fin g2⟩
   ·skip
    have c9' : (W20.setCell ⟨gp, 10, none⟩ (.slice A10 n10 c10)).cell? ⟨gp, 9, none⟩ = some (.slice A9 n9 c9) := HS.out.cell 9
    go_wp2_with fail
    rw [HW21.out]
    have HL9 : Hid ((ipOl l).length = n9) := Lib.hid ((by8_length _).symm.trans (Ow.length HOA.out))
    have HL10 : Hid ((ipDl l).length = n10) := Lib.hid ((by8_length _).symm.trans (Ow.length HOB.out))
    have HM9 : Hid (n9 ≤ 40) := Lib.hid (by rw [← HL9.out]; unfold ipOl; rw [List.length_take]; unfold ipHn; omega)
    have HM10 : Hid (n10 ≤ 1000000) := Lib.hid (by rw [← HL10.out]; unfold ipDl; rw [List.length_take, List.length_drop, HN.out]; have := HLE.out; omega)
    obtain ⟨gb, hgb⟩ : ∃ gb, goodO (ipOl l) = gb := ⟨_, rfl⟩
    have HGB := Lib.hid hgb
    have hgood := good_any A9 n9 c9 W21.heap.size (ipOl l) HL9.out (Ow.cap HOA.out) (by have := HM9.out; omega) ((hb.drop 20).take _) W21 (Ow.rw HOA.out)
    rw [hgb] at hgood
    refine hgood.mono ?_
    rintro e w7 ⟨rfl, rfl⟩
    clear hgb hgood c9'
    cases gb
    ·as_aux_lemma =>
     have HE : Hid (ipErr l = 3) := Lib.hid (HER.out 3 (if_pos (.inr HGB.out)))
     go_wp2_with fail
     refine (ipfail 3 _).mono ?_
     rintro e w1 ⟨rfl, hB1⟩
     have HS := Lib.hid (HS21.out.below hB1)
     clear hB1
     go_wp2_with (refine st_box 97 rfl (.tmp 2) (.tmp 130) rfl rfl rfl (cs := pkZ) rfl HS.out.ak pk_size rfl pkZ_all ?_; intro w2 hb2 g2 z2)
     refine bodyPost_ret (results_b1 rfl _ _ w.heap.size 97 pkZ (0, 0) _ rfl hb2 Tryz.underlying97 rfl pk_size) rfl ?_
     exact ⟨none, 0, 0, none, 0, 0, (by rw [HE.out]; rfl), (fun e => by rw [HE.out] at e; cases e), HS.out.fin g2⟩
    ·skip
     have HOF : Hid (0 ≤ (ipP l).off ∧ (ipP l).off ≤ 65528) := Lib.hid (by unfold ipP; have := rd2_bd hb 6; simp only []; omega)
     go_wp2_with (refine ld_box 97 _ rfl (.tmp 7) rfl rfl HS21.out.mp Tryz.underlying97 rfl pk_size ?_)
     rw [HPK.out]
     obtain ⟨fb, hfb⟩ : ∃ fb, decide (fitsP (ipP l).off n9 n10) = fb := ⟨_, rfl⟩
     have HFB := Lib.hid hfb
     have hwin := within_any (ipP l) HOF.out A9 A10 n9 c9 n10 c10 HM9.out (by have := HM10.out; omega) W21
     rw [hfb] at hwin
     refine hwin.mono ?_
     rintro e w8 ⟨rfl, hb8⟩
     have HS8 := Lib.hid (HS21.out.below hb8)
     have HOA8 := Lib.hid (Ow.stays HOA.out hb8)
     have HOB8 := Lib.hid (Ow.stays HOB.out hb8)
     clear hfb hwin hb8
     cases fb
     ·as_aux_lemma =>
      have HE : Hid (ipErr l = 5) := Lib.hid (HER.out 5 (by rw [if_neg (by rw [Hbt.out, HGB.out]; simp [r4]), if_pos (by rw [HL9.out, HL10.out]; exact of_decide_eq_false HFB.out)]))
      go_wp2_with fail
      refine (ipfail 5 _).mono ?_
      rintro e w1 ⟨rfl, hB1⟩
      have HS := Lib.hid (HS8.out.below hB1)
      clear hB1
      go_wp2_with (refine st_box 97 rfl (.tmp 2) (.tmp 137) rfl rfl rfl (cs := pkZ) rfl HS.out.ak pk_size rfl pkZ_all ?_; intro w2 hb2 g2 z2)
      refine bodyPost_ret (results_b1 rfl _ _ w.heap.size 97 pkZ (0, 0) _ rfl hb2 Tryz.underlying97 rfl pk_size) rfl ?_
      exact ⟨none, 0, 0, none, 0, 0, (by rw [HE.out]; rfl), (fun e => by rw [HE.out] at e; cases e), HS.out.fin g2⟩
     ·as_aux_lemma =>
      have HE : Hid (ipErr l = 0) := Lib.hid (HER.out 0 (by rw [if_neg (by rw [Hbt.out, HGB.out]; simp [r4]), if_neg (by rw [HL9.out, HL10.out]; exact fun e => e (of_decide_eq_true HFB.out))]))
      go_wp2_with (first
       | (refine ld_box 97 _ rfl (.tmp 7) rfl rfl HS8.out.mp Tryz.underlying97 rfl pk_size ?_)
       | (refine st_box 97 rfl (.tmp 2) (.tmp 139) rfl rfl rfl (cs := #[.int .i64 sv, .int .i64 idv, .bool (y1 != 0), .bool (y2 != 0), .int .i64 (y3 * 8), .int .i64 lf, .int .i64 pr, .int .u32 sr, .int .u32 ds, .slice A9 n9 c9, .slice A10 n10 c10]) rfl HS8.out.ak pk_size rfl (by simp [Value.oneCell']) ?_; intro w9 hb9 g9 z9))
      refine bodyPost_ret (results_b1 rfl _ _ w.heap.size 97 _ (0, 0) _ rfl hb9 Tryz.underlying97 rfl pk_size) rfl ?_
      refine ⟨A9, n9, c9, A10, n10, c10, (by rw [HE.out, if_pos rfl, ← HPK.out]; rfl), (fun _ => ⟨Ow.kept HOA8.out g9 (.inr (Ne.symm (HS8.out.ak.ow_ne HOA8.out (by decide)))), Ow.kept HOB8.out g9 (.inr (Ne.symm (HS8.out.ak.ow_ne HOB8.out (by decide))))⟩), HS8.out.fin g9⟩
theorem ipd_any (A : Option Addr) (n c B : Nat) (l : List Int) (hn : l.length = n) (hcp : n ≤ c) (hmax : n ≤ 1000000) (hb : Bs l) (w : World) (hr : RB w B A l) (hB : B ≤ w.heap.size) :
  Calls Tryz.prog 29 #[.slice A n c] w (IpDec l w) := by
 rcases Nat.lt_or_ge n 20 with h | h
 ·exact ipd_few A n c l hn h w
 ·by_cases hf : at8 l 0 / 16 ≠ 4 ∨ ipHn l < 20
  ·exact ipd_form A n c B l hn h hb hf w hr hB
  ·rcases Nat.lt_or_ge n (ipHn l) with h2 | h2
   ·exact ipd_cut A n c B l hn h hb (by omega) (by omega) h2 w hr hB
   ·exact ipd_long A n c B l hn hcp h hmax hb (by omega) (by omega) h2 w hr hB
end Go.Proofs.YtaeafkdfbcppgaaGreat
