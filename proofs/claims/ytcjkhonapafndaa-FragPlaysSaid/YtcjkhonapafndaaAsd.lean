/- Proved: laws of the state inside a Store's Add: what keeps it, and its ends; the end of a Store's Add that hands a packet out. Conditions: as each law says. -/
import Derived.Test.YtcjkhonapafndaaLwr
set_option linter.unusedVariables false
set_option linter.unusedSimpArgs false
namespace Go.Proofs.Ytcjkhonapafndaa
open Go.RowKit
theorem Rw.chg {F : Nat → Prop} {w w' : World} {B : Nat} {A : Option Addr} {xs : List Value} (h : Rw w B A xs) (hc : Chg F w w') (hB : B ≤ w.heap.size) (hF : ∀ b, blk A = some b → ¬ F b) : Rw w' B A xs := fun hn => by
  obtain ⟨b, off, rfl, hb, hx⟩ := h hn
  exact ⟨b, off, rfl, hb, fun j u hu => (hc.cell (p := ⟨b, off + j, none⟩) (by show b < _; omega) (hF b rfl)).trans (hx j u hu)⟩
def zC : Array Value := #[.int .i64 0, .int .i64 0, .bool false, .bool false, .int .i64 0, .int .i64 0, .int .i64 0, .int .u32 0, .int .u32 0, .slice none 0 0, .slice none 0 0]
/-- What Add answers. -/
def AddPost (w : World) (ps : Nat) (mv : Option Nat) (aA : Option Addr) (Ws : List WR) (R : List Rec → Pk3 → Bool → Int → Prop) (e : Ending) (w' : World) : Prop :=
  ∃ (mv' : Option Nat) (aA' : Option Addr) (ac' : Nat) (Ws' : List WR) (out : Pk3) (is : Bool) (er : Int) (A1 A2 : Option Addr) (n1 c1 n2 c2 : Nat),
    e = .returned (.tuple #[.agg (pkC out.1 (.slice A1 n1 c1) (.slice A2 n2 c2)), .bool is, .int .i64 er]) ∧ StW w' ps mv' aA' ac' Ws' ∧ OwnAt w' w.heap.size A1 n1 c1 out.2.1 A2 n2 c2 out.2.2 ∧
    (∀ b, blk A1 = some b ∨ blk A2 = some b → ¬ foot ps mv' aA' Ws' b) ∧ (∀ b, foot ps mv' aA' Ws' b → foot ps mv aA Ws b ∨ w.heap.size ≤ b) ∧ Chg (foot ps mv aA Ws) w w' ∧ R (Ws'.map (·.r)) out is er
theorem own_none (w : World) (base : Nat) : OwnAt w base none 0 0 [] none 0 0 [] := ⟨Ow.none_ _ _ _, Ow.none_ _ _ _, .inl rfl⟩
/-- Inside Add: the Store, the packet's own cells, the result's cells. -/
structure AS (w0 : World) (gx ps : Nat) (mv : Option Nat) (aA : Option Addr) (Ws : List WR) (mv' : Option Nat) (aA' : Option Addr) (ac' : Nat) (K1 K2 : List WR) (g : Nat) (pc : Array Value) (F : Nat → Prop) (r : Rec) (wx : World) : Prop where
  st : StW wx ps mv' aA' ac' (K1 ++ (⟨g, F, r⟩ : WR) :: K2)
  pk : Bk wx gx 26 pc
  zk : Bk wx (gx + 1) 26 zC
  ch : Chg (foot ps mv aA Ws) w0 wx
  ft : ∀ b, foot ps mv' aA' (K1 ++ (⟨g, F, r⟩ : WR) :: K2) b → foot ps mv aA Ws b ∨ gx + 1 < b
  gz : w0.heap.size ≤ gx
  lt : ∀ b, foot ps mv aA Ws b → b < w0.heap.size
section
variable {w0 wx wy : World} {gx ps ac' g : Nat} {mv mv' : Option Nat} {aA aA' : Option Addr} {Ws K1 K2 : List WR} {pc : Array Value} {F F' : Nat → Prop} {r r' : Rec}
theorem AS.fx (h : AS w0 gx ps mv aA Ws mv' aA' ac' K1 K2 g pc F r wx) (b : Nat) (hb : F b) : foot ps mv aA Ws b ∨ gx + 1 < b := h.ft b (.inr ⟨⟨g, F, r⟩, by simp, hb⟩)
theorem AS.wh (h : AS w0 gx ps mv aA Ws mv' aA' ac' K1 K2 g pc F r wx) : WhAt wx F g r := h.st.wh ⟨g, F, r⟩ (by simp)
theorem AS.upd (h : AS w0 gx ps mv aA Ws mv' aA' ac' K1 K2 g pc F r wx) (hc : Chg F wx wy) (hw : WhAt wy F' g r') (hF : ∀ b, F' b → F b ∨ wx.heap.size ≤ b) (hl : ∀ b, F' b → b < wy.heap.size) (hk : r'.k = r.k) :
    AS w0 gx ps mv aA Ws mv' aA' ac' K1 K2 g pc F' r' wy := by
  have hno : ∀ b, b = gx ∨ b = gx + 1 → ¬ F b := fun b hb hf => by
    rcases h.fx b hf with h1 | h1
    · have := h.lt b h1; have := h.gz; omega
    · omega
  have hz := h.zk.lt
  refine ⟨h.st.upd (x := ⟨g, F, r⟩) hc hw hF hl hk, h.pk.chg hc (hno _ (.inl rfl)), h.zk.chg hc (hno _ (.inr rfl)), h.ch.trans hc (fun b hb => ?_), fun b hb => ?_, h.gz, h.lt⟩
  · rcases h.fx b hb with h1 | h1
    · exact .inl h1
    · have := h.gz; exact .inr (by omega)
  · rcases hb with hb | ⟨y, hy, hb⟩
    · exact h.ft b (.inl hb)
    · rcases List.mem_append.1 hy with hy | hy
      · exact h.ft b (.inr ⟨y, by simp [hy], hb⟩)
      · rcases List.mem_cons.1 hy with rfl | hy
        · rcases hF b hb with h1 | h1
          · exact h.fx b h1
          · exact .inr (by omega)
        · exact h.ft b (.inr ⟨y, by simp [hy], hb⟩)
theorem AS.below (h : AS w0 gx ps mv aA Ws mv' aA' ac' K1 K2 g pc F r wx) (hb : Below wx.heap.size wx wy) : AS w0 gx ps mv aA Ws mv' aA' ac' K1 K2 g pc F r wy :=
  ⟨h.st.below hb, h.pk.below hb h.pk.lt, h.zk.below hb h.zk.lt, h.ch.trans (Chg.of_below (F := fun _ => False) hb) (fun _ e => e.elim), h.ft, h.gz, h.lt⟩
theorem AS.row {B : Nat} {A : Option Addr} {l : List Int} (h : AS w0 gx ps mv aA Ws mv' aA' ac' K1 K2 g pc F r wx) (hr : RB w0 B A l) (hB : B ≤ w0.heap.size) (hno : ∀ b, blk A = some b → ¬ foot ps mv aA Ws b) : RB wx B A l := Rw.chg hr h.ch hB hno
theorem AS.fin (h : AS w0 gx ps mv aA Ws mv' aA' ac' K1 K2 g pc F r wx) (v : Int) : AS w0 gx ps mv aA Ws mv' aA' ac' K1 K2 g pc F { r with fin := v } (wx.setCell ⟨g, 6, none⟩ (.int .i64 v)) :=
  h.upd ((Chg.refl F _).setCell (p := ⟨g, 6, none⟩) (.inl h.wh.g) _) (h.wh.fin v) (fun _ hb => .inl hb) (fun b hb => by rw [size_setCell]; exact h.st.lt ⟨g, F, r⟩ (by simp) b hb) rfl
/-- The first piece is kept. -/
theorem AS.fst {wz : World} {n1 c1 n2 c2 : Nat} {A1 A2 : Option Addr} {p : PkV} {ol dl : List Int} (h : AS w0 gx ps mv aA Ws mv' aA' ac' K1 K2 g pc F r wx) (hb : Below wx.heap.size wx wy) (hO : OwnAt wy wx.heap.size A1 n1 c1 ol A2 n2 c2 dl)
    (hz : (wy.alloc (.cells (pkC p (.slice A1 n1 c1) (.slice A2 n2 c2)) 26)).setCell ⟨g, 5, none⟩ (ptr wy.heap.size) = wz) :
    AS w0 gx ps mv aA Ws mv' aA' ac' K1 K2 g pc (fun b => F b ∨ (wx.heap.size ≤ b ∧ b < wz.heap.size)) { r with first := some (p, ol, dl) } wz := by
  have h2 := h.below hb
  have hFl : ∀ b, F b → b < wx.heap.size := fun b hb => h.st.lt ⟨g, F, r⟩ (by simp) b hb
  have hsz : wz.heap.size = wy.heap.size + 1 := by rw [← hz, size_setCell, World.size_alloc]
  have hw := h2.wh.fst (p := p) hO hFl hb.size
  rw [hz] at hw
  have hC : Chg F wy wz := by rw [← hz]; exact ((Chg.refl F _).alloc _).setCell (p := ⟨g, 5, none⟩) (.inl h.wh.g) _
  have hy := hb.size
  exact h.upd ((Chg.of_below (F := F) hb).trans hC (fun _ e => .inl e)) (by rw [hsz]; exact hw) (fun b hb => by rcases hb with h1 | h1; exact .inl h1; exact .inr h1.1) (fun b hb => by rcases hb with h1 | h1; (have := hFl b h1; omega); exact h1.2) rfl
/-- The end of a call without a packet. -/
theorem AS.zend {wf : World} {R : List Rec → Pk3 → Bool → Int → Prop} {er : Int} (h : AS w0 gx ps mv aA Ws mv' aA' ac' K1 K2 g pc F r wx) (hf : Chg (fun x => x = gx + 1) wx wf) (hR : R (K1.map (·.r) ++ r :: K2.map (·.r)) (zeroP, [], []) false er) :
    AddPost w0 ps mv aA Ws R (.returned (.tuple #[.agg zC, .bool false, .int .i64 er])) wf := by
  have hne : ∀ b, foot ps mv' aA' (K1 ++ (⟨g, F, r⟩ : WR) :: K2) b → ¬ b = gx + 1 := fun b hb e => by
    rcases h.ft b hb with h1 | h1
    · have := h.lt b h1; have := h.gz; omega
    · omega
  refine ⟨mv', aA', ac', _, (zeroP, [], []), false, er, none, none, 0, 0, 0, 0, rfl, h.st.chg hf hne, own_none _ _, fun b hb => by simp [blk] at hb, fun b hb => ?_, h.ch.trans hf (fun x hx => .inr (by have := h.gz; omega)), by rw [List.map_append, List.map_cons]; exact hR⟩
  have := h.gz
  rcases h.ft b hb with h1 | h1
  · exact .inl h1
  · exact .inr (by omega)
end
/-- The state behind of. -/
theorem of_as {w W w2 : World} {ps : Nat} {mv : Option Nat} {aA : Option Addr} {ac : Nat} {Ws : List WR} {k : K4} {now : Int} {e : Ending} {pc : Array Value} (h : StW w ps mv aA ac Ws) (hB : Below w.heap.size w W) (hz : W.heap.size = w.heap.size + 1 + 1)
    (hp : Bk W w.heap.size 26 pc) (hz1 : Bk W (w.heap.size + 1) 26 zC) (ho : OfPost W ps mv aA Ws k now e w2) :
    ∃ (mv' : Option Nat) (aA' : Option Addr) (ac' : Nat) (K1 K2 : List WR) (g : Nat) (F : Nat → Prop) (r : Rec), e = .returned (.pointer (some ⟨g, 0, none⟩)) ∧ OfR (Ws.map (·.r)) k now (K1.map (·.r)) r (K2.map (·.r)) ∧ AS w w.heap.size ps mv aA Ws mv' aA' ac' K1 K2 g pc F r w2 := by
  obtain ⟨mv', aA', ac', K1, x, K2, h1, h2, h3, h4, h5, h6⟩ := ho
  have hno : ∀ b, w.heap.size ≤ b → ¬ ownB ps mv aA b := fun b hb e => by have := h.foot_lt (.inl e); omega
  refine ⟨mv', aA', ac', K1, K2, x.g, x.F, x.r, h2, h3, ⟨h1, hp.chg h5 (hno _ (Nat.le_refl _)), hz1.chg h5 (hno _ (by omega)), (Chg.of_below (F := foot ps mv aA Ws) hB).trans h5 (fun b hb => .inl (.inl hb)), fun b hb => ?_, Nat.le_refl _, fun b hb => h.foot_lt hb⟩⟩
  rcases h4 b hb with e | e
  · exact .inl e
  · exact .inr (by omega)
/-- What holds of the one that of hands out. -/
theorem OfR.ok {L : List Rec} {k : K4} {now : Int} {K1 K2 : List Rec} {r : Rec} (h : OfR L k now K1 r K2) (hL : ∀ x ∈ L, RecOk x) : RecOk r ∧ r.k = k := by
  rcases h with ⟨h1, h2⟩ | ⟨_, _, h1, _⟩
  · exact ⟨hL r (by rw [h1]; simp), h2⟩
  · rw [h1]; exact ⟨RecOk.new k now, rfl⟩
theorem fits_st (F : Nat → Prop) (g : Nat) (r : Rec) (p : PkV) (o : Value) (dA : Option Addr) (dn dc : Nat) (w : World) (h : WhAt w F g r) (hr : RecOk r) (ho : 0 ≤ p.off ∧ p.off ≤ 65535) (hdn : dn ≤ 65535) :
    Calls Try.prog 45 #[.pointer (some ⟨g, 0, none⟩), .agg (pkC p o (.slice dA dn dc))] w fun e w' => e = .returned (.bool (fitsW r.fin r.S p.more (p.off + dn))) ∧ Below w.heap.size w w' := by
  obtain ⟨f, dA', tA, dn', dc', tn, tc, h1, h2, h3, _⟩ := h
  have hl := h3.len
  rw [List.length_map] at hl
  exact fits_any g _ _ _ _ _ f _ r.fin tA tn tc r.S p o dA dn dc w h1 h3 (by have := hr.tn; omega) ho hdn
end Go.Proofs.Ytcjkhonapafndaa
namespace Go.Proofs.Ytcjkhonapafndaa
open Go.RowKit
section
variable {w0 wx wy : World} {gx ps ac' g : Nat} {mv mv' : Option Nat} {aA aA' : Option Addr} {Ws K1 K2 : List WR} {pc : Array Value} {F F' : Nat → Prop} {r r' : Rec}
/-- The end of a call that hands a packet out. -/
theorem AS.done {wq w7 wf : World} {R : List Rec → Pk3 → Bool → Int → Prop} {B1 B2 : Option Addr} {n1 c1 n2 c2 base : Nat} (h : AS w0 gx ps mv aA Ws mv' aA' ac' K1 K2 g pc F r wq) (hS7 : StW w7 ps mv' aA' ac' (K1 ++ K2)) (hC7 : Chg (ownB ps mv' aA') wq w7)
    (hCf : Chg (fun x => w7.heap.size ≤ x ∨ x = gx + 1) w7 wf) (hO : OwnAt wf base B1 n1 c1 (outP r).2.1 B2 n2 c2 (outP r).2.2) (hb : w7.heap.size ≤ base) (hR : R (K1.map (·.r) ++ K2.map (·.r)) (outP r) true 0) :
    AddPost w0 ps mv aA Ws R (.returned (.tuple #[.agg (pkC (outP r).1 (.slice B1 n1 c1) (.slice B2 n2 c2)), .bool true, .int .i64 0])) wf := by
  have hsub : ∀ b, foot ps mv' aA' (K1 ++ K2) b → foot ps mv' aA' (K1 ++ (⟨g, F, r⟩ : WR) :: K2) b := fun b hb => by
    rcases hb with hb | ⟨y, hy, hb⟩
    · exact .inl hb
    · refine .inr ⟨y, ?_, hb⟩
      rcases List.mem_append.1 hy with hy | hy
      · exact List.mem_append_left _ hy
      · exact List.mem_append_right _ (List.mem_cons_of_mem _ hy)
  have hgz := h.gz
  have hz1 := h.ch.size
  have hz2 := hC7.size
  have hz0 : w0.heap.size ≤ base := by omega
  refine ⟨mv', aA', ac', K1 ++ K2, outP r, true, 0, B1, B2, n1, c1, n2, c2, rfl, hS7.chg hCf (fun b hb hx => ?_), ⟨Ow.mono hO.1 hz0, Ow.mono hO.2.1 hz0, hO.2.2⟩, fun b hbl hf => ?_, fun b hb => ?_, (h.ch.trans hC7 (fun b hb => ?_)).trans hCf (fun b hb => .inr (by omega)), by rw [List.map_append]; exact hR⟩
  · have h1 := hS7.foot_lt hb
    rcases hx with hx | hx
    · omega
    · rcases h.ft b (hsub b hb) with h2 | h2
      · have := h.lt b h2; omega
      · omega
  · have h1 := hS7.foot_lt hf
    rcases hbl with hbl | hbl
    · have := (Ow.lt hO.1 b hbl).1; omega
    · have := (Ow.lt hO.2.1 b hbl).1; omega
  · rcases h.ft b (hsub b hb) with h2 | h2
    · exact .inl h2
    · exact .inr (by omega)
  · rcases h.ft b (.inl hb) with h2 | h2
    · exact .inl h2
    · exact .inr (by omega)
end
end Go.Proofs.Ytcjkhonapafndaa
