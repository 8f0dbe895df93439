/- Proved: pieces of a packet as plain data, and how a list of packets lies in memory. Conditions: none. -/
import Derived.Test.YtcjkhonapafndaaCop
set_option linter.unusedVariables false
set_option linter.unusedSimpArgs false
namespace Go.Proofs.Ytcjkhonapafndaa
open Go.RowKit

/-! ### plain pieces -/
abbrev Pc := PkV × List Int × List Int
def piece (p : PkV) (mo : Bool) (at_ : Int) : PkV := { p with off := at_, more := mo }
def roomN (mtu on : Nat) : Nat := mtu - hdN on
def cutN (mtu on rn : Nat) : Nat := if roomN mtu on < rn then roomN mtu on / 8 * 8 else rn
def piecesF : Nat → PkV → Nat → List Int → List Int → List Int → Int → List Pc
  | 0, _, _, _, _, _, _ => []
  | f + 1, p, mtu, ol0, opts, rest, at_ => if rest.length = 0 then [] else
      (piece p (p.more || decide (cutN mtu opts.length rest.length < rest.length)) at_, opts, rest.take (cutN mtu opts.length rest.length)) ::
        piecesF f p mtu ol0 (copO ol0) (rest.drop (cutN mtu opts.length rest.length)) (at_ + cutN mtu opts.length rest.length)
def splitP (p : PkV) (mtu : Nat) (ol dl : List Int) : List Pc :=
  if hdN ol.length + dl.length ≤ mtu then [(p, ol, dl)] else piecesF (dl.length + 1) p mtu ol ol dl p.off
theorem piecesF_end {f : Nat} {p : PkV} {mtu : Nat} {ol0 opts rest : List Int} {at_ : Int} (h : rest.length = 0) : piecesF f p mtu ol0 opts rest at_ = [] := by
  cases f with
  | zero => rfl
  | succ f => rw [piecesF, if_pos h]
theorem piecesF_more {f : Nat} {p : PkV} {mtu : Nat} {ol0 opts rest : List Int} {at_ : Int} (h : 0 < rest.length) {n : Nat} (hn : cutN mtu opts.length rest.length = n) :
    piecesF (f + 1) p mtu ol0 opts rest at_ = (piece p (p.more || decide (n < rest.length)) at_, opts, rest.take n) :: piecesF f p mtu ol0 (copO ol0) (rest.drop n) (at_ + n) := by
  rw [piecesF, if_neg (by omega), hn]
theorem hdN_40 {n : Nat} (h : n ≤ 40) : hdN n ≤ 60 := by unfold hdN; omega
theorem cutN_pos {mtu on rn : Nat} (hm : 68 ≤ mtu) (ho : on ≤ 40) (hr : 0 < rn) : 0 < cutN mtu on rn ∧ cutN mtu on rn ≤ rn := by
  have := hdN_40 ho
  unfold cutN roomN
  split <;> omega

/-! ### pieces in memory -/
structure Pm where
  p : PkV
  oA : Option Addr
  on : Nat
  oc : Nat
  ol : List Int
  dA : Option Addr
  dn : Nat
  dc : Nat
  dl : List Int
def Pm.plain (x : Pm) : Pc := (x.p, x.ol, x.dl)
def pmC (x : Pm) : List Value := (pkC x.p (.slice x.oA x.on x.oc) (.slice x.dA x.dn x.dc)).toList
def PsAt (w : World) (base : Nat) (v : Value) (n : Nat) (L : List Pm) : Prop := w.ownsRow base 26 11 v n (L.flatMap pmC)
theorem pmC_len (x : Pm) : (pmC x).length = 11 := rfl
theorem flat_len (L : List Pm) : (L.flatMap pmC).length = L.length * 11 := by
  induction L with
  | nil => rfl
  | cons x r ih => rw [List.flatMap_cons, List.length_append, pmC_len, ih]; simp; omega
theorem PsAt.len {w : World} {base : Nat} {v : Value} {n : Nat} {L : List Pm} (h : PsAt w base v n L) : L.length = n := by
  have h1 := h.1
  rw [flat_len] at h1
  omega
theorem flat_get : ∀ (L : List Pm) (k i : Nat) (x : Pm), L[k]? = some x → i < 11 → (L.flatMap pmC)[k * 11 + i]? = (pmC x)[i]?
  | [], k, i, x, h, _ => by simp at h
  | y :: r, 0, i, x, h, hi => by
    simp at h; subst h
    rw [List.flatMap_cons, Nat.zero_mul, Nat.zero_add, List.getElem?_append_left (by rw [pmC_len]; exact hi)]
  | y :: r, k + 1, i, x, h, hi => by
    simp at h
    rw [List.flatMap_cons, List.getElem?_append_right (by rw [pmC_len]; omega), pmC_len, show (k + 1) * 11 + i - 11 = k * 11 + i by omega]
    exact flat_get r k i x h hi
theorem info_pkt : ∃ i, Try.prog.info? 26 = some i ∧ i.zero = some (.agg #[.int .i64 0, .int .i64 0, .bool false, .bool false, .int .i64 0, .int .i64 0, .int .i64 0, .int .u32 0, .int .u32 0, .slice none 0 0, .slice none 0 0]) ∧ i.size = 11 ∧ i.bytes = 104 := by
  have h : (Try.prog.info? 26).map (fun i => (i.zero, i.size, i.bytes)) = some (some (.agg #[.int .i64 0, .int .i64 0, .bool false, .bool false, .int .i64 0, .int .i64 0, .int .i64 0, .int .u32 0, .int .u32 0, .slice none 0 0, .slice none 0 0]), 11, 104) := by kernel_rfl
  cases hi : Try.prog.info? 26 with
  | none => rw [hi] at h; cases h
  | some i =>
    rw [hi] at h
    simp only [Option.map_some, Option.some.injEq, Prod.mk.injEq] at h
    exact ⟨i, rfl, h.1, h.2.1, h.2.2⟩
section
variable {ops : Array Oper} {rest : List Oper} {o : Oper} {a : Act} {w : World} {Q : Exit → Act → World → Prop}
/-- One packet more. -/
theorem ap_pk (hgd : o.guard = none) (s x : Operand)
    (ho : o.op = .call { callee := .builtin .append, args := #[s, x], argTypes := #[29, 29] })
    (base : Nat) {v : Value} {n : Nat} {L : List Pm} (hs : a.eval s = v) (hown : PsAt w base v n L)
    (y : Pm) {c2 : Nat} {cs : Array Value} (hcs : cs = (pmC y).toArray) (hx : a.eval x = .slice (some ⟨w.heap.size, 0, none⟩) 1 c2) (hsz : n ≤ 100000) (hbase : base ≤ w.heap.size)
    (h : ∀ v' w', PsAt w' base v' (n + 1) (L ++ [y]) → w.grownBy w' v.ownBlock → wpList Try.prog ops Q rest (a.put o.dst v') w') :
    wpList Try.prog ops Q (o :: rest) a (w.alloc (.cells cs 26)) := by
  subst hcs
  obtain ⟨i, h1, h2, h3, h4⟩ := info_pkt
  refine wpList_append_own (w.alloc (.cells (pmC y).toArray 26)) hgd s x 29 ho base 26 i _ 11 104 Try.underlying29 h1 h2 h3 h4 rfl (by omega)
    v n (L.flatMap pmC) hs (World.ownsRow.alloc hown _) ⟨w.heap.size, 0, none⟩ 1 c2 (pmC y) hx rfl (fun j u hu => ?_) (fun u hu => ?_) (by unfold maxLen; omega) (by omega) (by rw [World.size_alloc]; omega) fun v' w' q1 q2 _ => ?_
  · rw [add_eq, Nat.zero_add]
    have := (Bk.new w 26 (pmC y).toArray).cell j
    rw [this]; simpa using hu
  · unfold pmC pkC at hu
    simp at hu
    rcases hu with rfl | rfl | rfl | rfl | rfl | rfl | rfl | rfl | rfl | rfl | rfl <;> rfl
  · refine h v' w' ?_ ((World.grownBy_alloc w _ _).trans q2)
    unfold PsAt
    rw [List.flatMap_append]
    simpa using q1
end
/-- Two packets that share no row. -/
def Sep (x y : Pm) : Prop := ∀ b, (blk x.oA = some b ∨ blk x.dA = some b) → blk y.oA ≠ some b ∧ blk y.dA ≠ some b
def PmOk (w : World) (base : Nat) (x : Pm) : Prop := OwnAt w base x.oA x.on x.oc x.ol x.dA x.dn x.dc x.dl
def PmsOk (w : World) (base : Nat) (L : List Pm) : Prop := (∀ x ∈ L, PmOk w base x) ∧ L.Pairwise Sep
theorem OwnAt.keep {w w' : World} {base : Nat} {A1 A2 : Option Addr} {n1 c1 n2 c2 : Nat} {ol dl : List Int} (h : OwnAt w base A1 n1 c1 ol A2 n2 c2 dl) {row : Option Nat} (hg : w.grownBy w' row) (h1 : blk A1 = none ∨ blk A1 ≠ row) (h2 : blk A2 = none ∨ blk A2 ≠ row) : OwnAt w' base A1 n1 c1 ol A2 n2 c2 dl :=
  ⟨Ow.kept h.1 hg h1, Ow.kept h.2.1 hg h2, h.2.2⟩
theorem OwnAt.below {w w' : World} {base : Nat} {A1 A2 : Option Addr} {n1 c1 n2 c2 : Nat} {ol dl : List Int} (h : OwnAt w base A1 n1 c1 ol A2 n2 c2 dl) (hb : Below w.heap.size w w') : OwnAt w' base A1 n1 c1 ol A2 n2 c2 dl :=
  ⟨Ow.stays h.1 hb, Ow.stays h.2.1 hb, h.2.2⟩
theorem PmsOk.below {w w' : World} {base : Nat} {L : List Pm} (h : PmsOk w base L) (hb : Below w.heap.size w w') : PmsOk w' base L := ⟨fun x hx => (h.1 x hx).below hb, h.2⟩
/-- A packet that was made behind all others. -/
theorem PmsOk.snoc {w : World} {base mid : Nat} {L : List Pm} {x : Pm} (h : PmsOk w base L) (hx : PmOk w mid x) (hm : base ≤ mid) (hL : ∀ y ∈ L, ∀ b, (blk y.oA = some b ∨ blk y.dA = some b) → b < mid) : PmsOk w base (L ++ [x]) := by
  refine ⟨fun y hy => ?_, List.pairwise_append.2 ⟨h.2, List.pairwise_singleton _ _, fun y hy z hz b hb => ?_⟩⟩
  · rcases List.mem_append.1 hy with hy | hy
    · exact h.1 y hy
    · simp at hy; subst hy
      exact ⟨Ow.mono hx.1 hm, Ow.mono hx.2.1 hm, hx.2.2⟩
  · simp at hz; subst hz
    have := hL y hy b hb
    exact ⟨fun e => by have := (Ow.lt hx.1 b e).1; omega, fun e => by have := (Ow.lt hx.2.1 b e).1; omega⟩
theorem PmsOk.lt {w : World} {base : Nat} {L : List Pm} (h : PmsOk w base L) : ∀ y ∈ L, ∀ b, (blk y.oA = some b ∨ blk y.dA = some b) → b < w.heap.size := fun y hy b hb => by
  rcases hb with hb | hb
  · exact (Ow.lt (h.1 y hy).1 b hb).2
  · exact (Ow.lt (h.1 y hy).2.1 b hb).2
end Go.Proofs.Ytcjkhonapafndaa
