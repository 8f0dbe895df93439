/- Proved: bytes are alike or not, and a copy into cells of a block. Conditions: the bytes lie in memory. -/
import Derived.Test.YtocigdkndlmikaaArpV
import Derived.Test.YtocigdkndlmikaaArpE
import Derived.Test.YtocigdkndlmikaaRdSt
import Derived.Laws.BytesArg
import Derived.Laws.CopyOwn
set_option linter.unusedVariables false
namespace Go.Proofs.Ytocigdkndlmikaa
open Go.RowKit

theorem u8_inj {x y : Int} (hx : 0 ≤ x ∧ x < 256) (hy : 0 ≤ y ∧ y < 256) (h : UInt8.ofNat x.toNat = UInt8.ofNat y.toNat) : x = y := by
  have := congrArg UInt8.toNat h
  simp only [UInt8.toNat_ofNat'] at this
  omega
theorem map_u8_inj : ∀ {l m : List Int}, Bs l → Bs m → (l.map fun n => UInt8.ofNat n.toNat) = (m.map fun n => UInt8.ofNat n.toNat) → l = m
  | [], [], _, _, _ => rfl
  | x :: l, y :: m, hl, hm, h => by
    simp only [List.map_cons, List.cons.injEq] at h
    rw [u8_inj (hl x (by simp)) (hm y (by simp)) h.1, map_u8_inj (fun z hz => hl z (by simp [hz])) (fun z hz => hm z (by simp [hz])) h.2]
  | [], _ :: _, _, _, h => by simp at h
  | _ :: _, [], _, _, h => by simp at h
theorem str_inj {l m : List Int} (hl : Bs l) (hm : Bs m) : (strOfNums l = strOfNums m) ↔ l = m :=
  ⟨fun h => map_u8_inj hl hm (by have := congrArg (fun s : ByteArray => s.data.toList) h; simpa only [strOfNums_data] using this), fun h => by rw [h]⟩
set_option maxRecDepth 100000 in
theorem equal_any (A1 A2 : Option Addr) (n c1 c2 B1 B2 : Nat) (l1 l2 : List Int) (h0 : 0 < n) (h1 : l1.length = n) (h2 : l2.length = n) (hb1 : Bs l1) (hb2 : Bs l2) (w : World) (r1 : RB w B1 A1 l1) (r2 : RB w B2 A2 l2) :
    Calls Try.prog 38 #[.slice A1 n c1, .slice A2 n c2] w fun e w' => e = .returned (.bool (decide (l1 = l2))) ∧ w = w' := by
  obtain ⟨b1, o1, rfl, _, _⟩ := r1.at_ (k := 0) (by omega)
  obtain ⟨b2, o2, rfl, _, _⟩ := r2.at_ (k := 0) (by omega)
  have e1 := run_convert_bytes_arg (P := Try.prog) w 27 5 Try.underlying27 Try.underlying5 b1 o1 n c1 l1 h1 (fun i hi => by
    obtain ⟨b, o, e, _, h⟩ := r1.at_ (k := i) (by omega); injection e with e; injection e with ea eb; subst ea; subst eb; simpa [List.getD] using h) 9 Try.underlying9
  have e2 := run_convert_bytes_arg (P := Try.prog) w 27 5 Try.underlying27 Try.underlying5 b2 o2 n c2 l2 h2 (fun i hi => by
    obtain ⟨b, o, e, _, h⟩ := r2.at_ (k := i) (by omega); injection e with e; injection e with ea eb; subst ea; subst eb; simpa [List.getD] using h) 9 Try.underlying9
  have HI := Lib.hid (str_inj hb1 hb2)
  clear h1 h2 r1 r2
  go_enter Try.func38, Try.ntmps38
  go_wp2
  go_ret
  refine ⟨?_, rfl⟩
  rw [ByteArray.toList_eq, ByteArray.toList_eq, strOfNums_data, strOfNums_data]
  show Ending.returned (.bool ((l1.map fun n => UInt8.ofNat n.toNat) == (l2.map fun n => UInt8.ofNat n.toNat))) = _
  by_cases h : l1 = l2
  · rw [h]; simp
  · rw [decide_eq_false h, beq_eq_false_iff_ne.2 (fun e => h (map_u8_inj hb1 hb2 e))]
/-! ### a copy of a row of bytes into cells of a block -/
theorem grownBy_setRow (w : World) (g : Nat) (cs : Array Value) : w.grownBy (w.setRow g cs) (some g) :=
  ⟨rfl, rfl, rfl, by simp [World.setRow], fun k hk hne => setRow_other w g k cs (fun e => hne (by rw [e]))⟩
section
variable {ops : Array Oper} {o : Oper} {a : Act} {w : World} {K : Act → World → Prop} {Q : Exit → Act → World → Prop} {E : Prop}
set_option maxRecDepth 100000 in
theorem cp8 (hgd : o.guard = none) (d s : Operand) (dT : TypeId) (hu : Try.prog.underlying dT = some (.slice 5))
    (ho : o.op = .call { callee := .builtin .copy, args := #[d, s], argTypes := #[dT, 27] })
    {g off n dc : Nat} {t : TypeId} {cs : Array Value} (hd : a.eval d = .slice (some ⟨g, off, none⟩) n dc) (hg : Bk w g t cs)
    {A : Option Addr} {m c B : Nat} {l : List Int} (hs : a.eval s = .slice A m c) (hr : RB w B A l) (hm : l.length = m) (hn : m = n) (h0 : 0 < n) (hfit : off + n ≤ cs.size)
    (h : ∀ w', Bk w' g t (splice cs.toList off (by8 l)).toArray → w.grownBy w' (some g) → K (a.put o.dst (goInt n)) w') :
    if Region.wanted o (yielded ops a.tmps) = true then Oper.wp Try.prog o a w K Q else E := by
  have hw : Region.wanted o (yielded ops a.tmps) = true := by simp [Region.wanted, hgd]
  rw [if_pos hw]
  obtain ⟨b, o2, rfl, _, _⟩ := hr.at_ (k := 0) (by omega)
  have hl : (by8 l).length = n := by rw [by8_length]; omega
  have hrun := run_copy_row (P := Try.prog) w dT 27 o.type 5 g off n dc ⟨b, o2, none⟩ m c cs t (by8 l) hu (by kernel_rfl) hg (by rw [hl, hn]; simp) (fun j v hj => by
    have hj' : j < l.length := by
      rcases Nat.lt_or_ge j l.length with h1 | h1
      · exact h1
      · rw [List.getElem?_eq_none (by rw [by8_length]; exact h1)] at hj; cases hj
    obtain ⟨b', o', e, _, h3⟩ := Rw.at_ hr hj
    injection e with e; injection e with e1 e2; subst e1; subst e2
    rw [add_eq]; exact h3) (by rw [hl]; exact hfit) (by8_one l)
  unfold Oper.wp
  simp [execOp, ho, resolve, invoke, builtin, hd, hs, hrun, Result.andThen]
  have h9 := h (w.setRow g (splice cs.toList off (by8 l)).toArray) (setRow_heap w g _ _ t _ hg) (grownBy_setRow w g _)
  rw [← hl] at h9
  exact h9
end
theorem six_at (l : List Int) (k : Nat) (h : k + 6 ≤ l.length) : (l.drop k).take 6 = [at8 l k, at8 l (k + 1), at8 l (k + 2), at8 l (k + 3), at8 l (k + 4), at8 l (k + 5)] := by
  rw [drop_at8 l k (by omega), drop_at8 l (k + 1) (by omega), drop_at8 l (k + 1 + 1) (by omega), drop_at8 l (k + 1 + 1 + 1) (by omega), drop_at8 l (k + 1 + 1 + 1 + 1) (by omega), drop_at8 l (k + 1 + 1 + 1 + 1 + 1) (by omega)]
  rfl
/-- What bytes are read as. -/
def arpC (l : List Int) : Array Value := #[.int .i64 (rd2 l 6), .int .u8 (at8 l 8), .int .u8 (at8 l 9), .int .u8 (at8 l 10), .int .u8 (at8 l 11), .int .u8 (at8 l 12), .int .u8 (at8 l 13), .int .u32 (rd4 l 14),
  .int .u8 (at8 l 18), .int .u8 (at8 l 19), .int .u8 (at8 l 20), .int .u8 (at8 l 21), .int .u8 (at8 l 22), .int .u8 (at8 l 23), .int .u32 (rd4 l 24)]
def zeroC : Array Value := #[.int .i64 0, .int .u8 0, .int .u8 0, .int .u8 0, .int .u8 0, .int .u8 0, .int .u8 0, .int .u32 0, .int .u8 0, .int .u8 0, .int .u8 0, .int .u8 0, .int .u8 0, .int .u8 0, .int .u32 0]
def headA : List Int := [0, 1, 8, 0, 6, 4]
def goodA (l : List Int) : Prop := l.take 6 = headA ∧ (rd2 l 6 = 1 ∨ rd2 l 6 = 2)
end Go.Proofs.Ytocigdkndlmikaa
