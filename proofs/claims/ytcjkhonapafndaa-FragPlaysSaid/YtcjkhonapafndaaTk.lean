/- Proved: what Tick of a Store does, by its walk; slices.Clone of the wholes. Conditions: the Store lies in memory with at most eight wholes. -/
import Derived.Test.YtcjkhonapafndaaAsd
import Derived.Test.YtcjkhonapafndaaSpl
import Derived.Deep.DeepCutAuto
import Derived.WalkMore
import Derived.Deep.LoopGhost
set_option linter.unusedVariables false
set_option linter.unusedSimpArgs false
namespace Go.Proofs.Ytcjkhonapafndaa
open Go.RowKit
section
variable {ops : Array Oper} {rest : List Oper} {o : Oper} {a : Act} {w : World} {Q : Exit → Act → World → Prop}
theorem ap_ptrs_new (hgd : o.guard = none) (s x : Operand)
    (ho : o.op = .call { callee := .builtin .append, args := #[s, x], argTypes := #[44, 44] })
    (hs : a.eval s = .slice (some ⟨w.heap.size, 0, none⟩) 0 0) {B : Nat} {A2 : Option Addr} {m c2 : Nat} {K : List Nat} (hx : a.eval x = .slice A2 m c2) (hr : Rw w B A2 (ptrs K)) (hB : B ≤ w.heap.size) (hm : K.length = m) (hsz : m ≤ 100000)
    (h : ∀ A' c' w', Pt w' w.heap.size A' m c' K → Below w.heap.size w w' → wpList Try.prog ops Q rest (a.put o.dst (.slice A' m c')) w') :
    wpList Try.prog ops Q (o :: rest) a (w.alloc (.cells #[] 79)) := by
  refine wpList_append_rw (P := Try.prog) (w := w.alloc (.cells #[] 79)) hgd s x 44 ho w.heap.size 79 (.pointer none) 8 Try.underlying44 info_ptr rfl hs (ow_lit w 79 w.heap.size [] (Nat.le_refl _) (by decide)) hx (Rw.alloc hr hB _) (by unfold ptrs; rw [List.length_map]; exact hm) (fun u hu => by
    unfold ptrs at hu
    obtain ⟨y, _, rfl⟩ := List.mem_map.1 hu
    rfl) (by unfold maxLen; omega) (by omega) (by rw [World.size_alloc]; omega) fun A' c' w' h1 h2 h3 => ?_
  rw [Nat.zero_add] at h1 ⊢
  rw [List.nil_append] at h1
  refine h A' c' w' h1 (((Below.refl _ w).alloc (Nat.le_refl _) _).trans ((Below.refl w.heap.size _).grown h2 (by rw [World.size_alloc]; omega) (fun k hk => ?_)))
  have := (by simpa [blk] using hk : w.heap.size = k)
  omega
end
set_option maxRecDepth 100000 in
theorem clone_pt (aA : Option Addr) (n ac : Nat) (K : List Nat) (w : World) (h : Pt w 0 aA n ac K) (hn : n ≤ 100000) :
    Calls Try.prog 48 #[.slice aA n ac] w fun e w' => ∃ A' c', e = .returned (.slice A' n c') ∧ Pt w' w.heap.size A' n c' K ∧ Below w.heap.size w w' := by
  have qs : ∀ (w : World) (a : Option Addr) (n c n' c' : Nat), (binOp .eql 44 (.slice a n c) (.slice none n' c')).run Try.prog w = .ok (.bool a.isNone) w := fun w a n c n' c' => Lib.run_eql_slice_nil w _ _ a n c n' c' Try.underlying44
  have hl := h.len
  rcases Ow.cases_ h with ⟨rfl, rfl, rfl, hK⟩ | ⟨g, cur, rfl, _⟩
  · have hK' : K = [] := List.eq_nil_of_length_eq_zero (by omega)
    subst hK'
    clear h hl hK
    go_enter Try.func48, Try.ntmps48
    go_wp2
    go_ret
    exact ⟨none, 0, rfl, Ow.none_ _ _ _, Below.refl _ _⟩
  · have HR : Hid (Rw w w.heap.size (some ⟨g, 0, none⟩) (ptrs K)) := Lib.hid (Ow.rw h)
    have HL := Lib.hid hl
    clear h hl
    go_enter Try.func48, Try.ntmps48
    go_wp2_with (at_builtin; refine ap_ptrs_new rfl (.tmp 5) (.tmp 6) rfl rfl rfl HR.out (Nat.le_refl _) HL.out hn ?_; intro A1 c1 w1 hO1 hB1)
    go_ret
    exact ⟨A1, c1, rfl, hO1, hB1⟩
/-- What is given up. -/
def untilF (now : Int) : Int := if now < -9223372036854775508 then -9223372036854775808 else now - 300
def keepB (u : Int) (r : Rec) : Bool := decide (u < r.bg)
def outT (r : Rec) : List Pk3 := match r.first with
  | some x => [x]
  | none => []
def tickL (u : Int) (L : List Rec) : List Rec := L.filter (keepB u)
def tickO (u : Int) (L : List Rec) : List Pk3 := (L.filter (fun r => !keepB u r)).flatMap outT
def keepW (u : Int) (x : WR) : Bool := keepB u x.r
theorem tickL_map (u : Int) (Ws : List WR) : (Ws.filter (keepW u)).map (·.r) = tickL u (Ws.map (·.r)) := by
  unfold tickL
  induction Ws with
  | nil => rfl
  | cons x t ih =>
    rw [List.map_cons, List.filter_cons, List.filter_cons]
    show List.map _ (if keepB u x.r = true then _ else _) = _
    split
    · rw [List.map_cons, ih]
    · exact ih
theorem PsAt.chg {F : Nat → Prop} {w w' : World} {base n : Nat} {v : Value} {L : List Pm} (h : PsAt w base v n L) (hc : Chg F w w') (hF : ∀ b, F b → b < base) : PsAt w' base v n L := by
  refine ⟨h.1, ?_⟩
  rcases h.2 with h2 | ⟨g, cap, cur, h1, h2, h3, h4⟩
  · exact .inl h2
  · exact .inr ⟨g, cap, cur, h1, h2, (hc.block g (Array.getElem?_eq_some_iff.1 h3).1 (fun e => by have := hF g e; omega)).trans h3, h4⟩
theorem PmsOk.chg {F : Nat → Prop} {w w' : World} {base : Nat} {L : List Pm} (h : PmsOk w base L) (hc : Chg F w w') (hF : ∀ b, F b → b < base) : PmsOk w' base L :=
  ⟨fun x hx => ⟨Ow.chg (h.1 x hx).1 hc (fun b hb e => by have := (Ow.lt (h.1 x hx).1 b hb).1; have := hF b e; omega), Ow.chg (h.1 x hx).2.1 hc (fun b hb e => by have := (Ow.lt (h.1 x hx).2.1 b hb).1; have := hF b e; omega), (h.1 x hx).2.2⟩, h.2⟩
theorem PsAt.neP {w : World} {base base' : Nat} {v : Value} {n : Nat} {L : List Pm} (h : PsAt w base v n L) {A : Option Addr} {k c : Nat} {K : List Nat} (ho : Pt w base' A k c K) : blk A = none ∨ blk A ≠ v.ownBlock := by
  cases hA : blk A with
  | none => exact .inl rfl
  | some b =>
    refine .inr fun e => ?_
    obtain ⟨_, _, cs, h1⟩ := h.ty e.symm
    rcases Ow.cases_ ho with ⟨rfl, _⟩ | ⟨g, cur, rfl, _, h3, _⟩
    · cases hA
    · have e2 : g = b := by simpa [blk] using hA
      subst e2
      rw [h1] at h3
      injection h3 with h3; injection h3 with _ h3
      exact absurd h3 (by decide)
section
variable {Ws : List WR} {k : Nat} {x : WR} {u : Int}
theorem drop_wr (hk : Ws[k]? = some x) : Ws.drop k = x :: Ws.drop (k + 1) := by
  obtain ⟨h1, h2⟩ := List.getElem?_eq_some_iff.1 hk
  rw [List.drop_eq_getElem_cons h1, h2]
theorem take_keep (hk : Ws[k]? = some x) (hb : keepW u x = true) : (Ws.take (k + 1)).filter (keepW u) ++ Ws.drop (k + 1) = (Ws.take k).filter (keepW u) ++ Ws.drop k := by
  rw [List.take_add_one, hk, drop_wr hk, List.filter_append]
  simp [List.filter_cons, hb]
theorem take_give (hk : Ws[k]? = some x) (hb : keepW u x = false) : (Ws.take (k + 1)).filter (keepW u) = (Ws.take k).filter (keepW u) := by
  rw [List.take_add_one, hk, List.filter_append]
  simp [List.filter_cons, hb]
theorem tickO_step (hk : Ws[k]? = some x) : tickO u ((Ws.take (k + 1)).map (·.r)) = tickO u ((Ws.take k).map (·.r)) ++ (if keepW u x then [] else outT x.r) := by
  unfold tickO
  rw [List.take_add_one, hk, List.map_append, List.filter_append, List.flatMap_append]
  congr 1
  have e : keepW u x = keepB u x.r := rfl
  rw [e]
  cases h : keepB u x.r <;> simp [List.filter_cons, h]
end
theorem outT_len (r : Rec) : (outT r).length ≤ 1 := by unfold outT; split <;> simp
theorem tickO_len (u : Int) (M : List Rec) : (tickO u M).length ≤ M.length := by
  unfold tickO
  induction M with
  | nil => exact Nat.le_refl _
  | cons x t ih =>
    rw [List.filter_cons]
    split
    · rw [List.flatMap_cons, List.length_append]
      have := outT_len x
      simp only [List.length_cons]; omega
    · simp only [List.length_cons]; omega
/-- The state in Tick's loop behind k wholes. -/
structure TkS (w : World) (ps : Nat) (mv : Option Nat) (aA : Option Addr) (ac : Nat) (Ws : List WR) (u : Int) (k : Nat) (A : Option Addr) (n c : Nat) (cA : Option Addr) (cn cc : Nat) (wr : World) (L : List Pm) : Prop where
  st : StW wr ps mv aA ac ((Ws.take k).filter (keepW u) ++ Ws.drop k)
  ch : Chg (ownB ps mv aA) w wr
  cl : Pt wr w.heap.size cA cn cc (Ws.map (·.g))
  ps : PsAt wr w.heap.size (.slice A n c) n L
  pm : PmsOk wr w.heap.size L
  ot : L.map Pm.plain = tickO u ((Ws.take k).map (·.r))
def TkR (w : World) (ps : Nat) (mv : Option Nat) (aA : Option Addr) (ac : Nat) (Ws : List WR) (u : Int) (k : Nat) (cA : Option Addr) (cn cc : Nat) (v6 : Value) (wr : World) : Prop := ∃ A n c L, v6 = .slice A n c ∧ TkS w ps mv aA ac Ws u k A n c cA cn cc wr L
section
variable {w wr w2 : World} {ps ac k n c cn cc : Nat} {mv : Option Nat} {aA A cA : Option Addr} {Ws : List WR} {u : Int} {L : List Pm} {x : WR}
theorem TkS.skip (h : TkS w ps mv aA ac Ws u k A n c cA cn cc wr L) (hk : Ws[k]? = some x) (hb : keepW u x = true) : TkS w ps mv aA ac Ws u (k + 1) A n c cA cn cc wr L :=
  ⟨by rw [take_keep hk hb]; exact h.st, h.ch, h.cl, h.ps, h.pm, by rw [tickO_step hk, if_pos hb, List.append_nil]; exact h.ot⟩
/-- One is given up. -/
theorem TkS.give (h : TkS w ps mv aA ac Ws u k A n c cA cn cc wr L) (hw : StW w ps mv aA ac Ws) (hk : Ws[k]? = some x) (hb : keepW u x = false) (hst : StW w2 ps mv aA ac ((Ws.take k).filter (keepW u) ++ Ws.drop (k + 1))) (hc : Chg (ownB ps mv aA) wr w2) (ho : outT x.r = []) :
    TkS w ps mv aA ac Ws u (k + 1) A n c cA cn cc w2 L := by
  have hF : ∀ b, ownB ps mv aA b → b < w.heap.size := fun b hb => hw.foot_lt (.inl hb)
  refine ⟨by rw [take_give hk hb]; exact hst, h.ch.trans hc (fun _ e => .inl e), Pt.chg h.cl hc (fun b hbl e => by have := (Ow.lt h.cl b hbl).1; have := hF b e; omega), h.ps.chg hc hF, h.pm.chg hc hF, by rw [tickO_step hk, if_neg (by rw [hb]; decide), ho, List.append_nil]; exact h.ot⟩
/-- One is given up, and its first piece told. -/
theorem TkS.tell {w3 w4 : World} {A' : Option Addr} {n' c' : Nat} {y : Pm} {v' : Value} (h : TkS w ps mv aA ac Ws u k A n c cA cn cc wr L) (hw : StW w ps mv aA ac Ws) (hk : Ws[k]? = some x) (hb : keepW u x = false)
    (hst : StW w2 ps mv aA ac ((Ws.take k).filter (keepW u) ++ Ws.drop (k + 1))) (hc : Chg (ownB ps mv aA) wr w2) (hB3 : Below w2.heap.size w2 w3) (hy : PmOk w3 w2.heap.size y) (hyp : outT x.r = [y.plain])
    (hv : v' = .slice A' n' c') (hP : PsAt w4 w.heap.size v' (n + 1) (L ++ [y])) (hg : w3.grownBy w4 (.slice A n c : Value).ownBlock) : TkS w ps mv aA ac Ws u (k + 1) A' n' c' cA cn cc w4 (L ++ [y]) := by
  subst hv
  have hF : ∀ b, ownB ps mv aA b → b < w.heap.size := fun b hb => hw.foot_lt (.inl hb)
  have hzw := h.ch.size
  have hz2 := hc.size
  have hz3 := hB3.size
  have hcl2 := Pt.chg h.cl hc (fun b hbl e => by have := (Ow.lt h.cl b hbl).1; have := hF b e; omega)
  have hps2 := h.ps.chg hc hF
  have hpm2 := h.pm.chg hc hF
  have hps3 : PsAt w3 w.heap.size (.slice A n c) n L := hps2.chg (Chg.of_below (F := fun _ => False) hB3) (fun _ e => e.elim)
  have hcl3 : Pt w3 w.heap.size cA cn cc (Ws.map (·.g)) := Pt.chg hcl2 (Chg.of_below (F := fun _ => False) hB3) (fun _ _ e => e)
  have hpm3 := hpm2.below hB3
  have hn : n' = n + 1 := by
    rcases hP.2 with ⟨h1, h2⟩ | ⟨g, cap, cur, h1, _⟩
    · omega
    · injection h1
  subst hn
  have hown : ∀ b, (.slice A n c : Value).ownBlock = some b → w.heap.size ≤ b := fun b hb => (h.ps.ty hb).1
  have hst4 : StW w4 ps mv aA ac ((Ws.take k).filter (keepW u) ++ Ws.drop (k + 1)) := by
    have h3 := hst.below hB3
    refine h3.chg (Chg.of_grown (F := fun b => (.slice A n c : Value).ownBlock = some b) hg (fun b hb => hb)) (fun b hb hb2 => ?_)
    have hlt : b < w.heap.size ∨ (∃ z ∈ Ws, z.F b) := by
      rcases hb with hb | ⟨z, hz, hb⟩
      · exact .inl (hF b hb)
      · refine .inr ⟨z, ?_, hb⟩
        rcases List.mem_append.1 hz with hz | hz
        · exact List.mem_of_mem_take (List.mem_filter.1 hz).1
        · exact List.mem_of_mem_drop hz
    have h5 := hown b hb2
    rcases hlt with h6 | ⟨z, hz, h6⟩
    · omega
    · have := hw.lt z hz b h6; omega
  refine ⟨by rw [take_give hk hb]; exact hst4, (h.ch.trans hc (fun _ e => .inl e)).trans ((Chg.of_below (F := fun b => (.slice A n c : Value).ownBlock = some b) hB3).trans (Chg.of_grown hg (fun b hb => hb)) (fun _ e => .inl e)) (fun b e => .inr (hown b e)),
    Pt.chg hcl3 (Chg.of_grown (F := fun b => (.slice A n c : Value).ownBlock = some b) hg (fun b hb => hb)) (fun b hbl e => ?_), hP, ?_, ?_⟩
  · rcases hps3.neP hcl3 with h1 | h1
    · rw [h1] at hbl; cases hbl
    · exact h1 (hbl.trans e.symm)
  · have h4 := hpm3.grown hps3 hg
    have hy4 : PmOk w4 w2.heap.size y := hy.keep hg (hps3.ne8 hy.1) (hps3.ne8 hy.2.1)
    exact h4.snoc hy4 (by omega) (fun z hz b hb => by have := hpm2.lt z hz b hb; omega)
  · rw [tickO_step hk, if_neg (by rw [hb]; decide), hyp, List.map_append, h.ot]
    rfl
end
set_option maxHeartbeats 4000000 in
set_option maxRecDepth 100000 in
theorem tick_st (ps : Nat) (mv : Option Nat) (aA : Option Addr) (ac : Nat) (Ws : List WR) (now : Int) (hnow : okI now) (w : World) (h : StW w ps mv aA ac Ws) (hlen : Ws.length ≤ 8) (hok : ∀ x ∈ Ws, RecOk x.r) :
    Calls Try.prog 24 #[.pointer (some ⟨ps, 0, none⟩), .int .i64 now] w fun e w' => ∃ A n c L Ws', e = .returned (.slice A n c) ∧ Ws'.map (·.r) = tickL (untilF now) (Ws.map (·.r)) ∧ L.map Pm.plain = tickO (untilF now) (Ws.map (·.r)) ∧
      StW w' ps mv aA ac Ws' ∧ (∀ x ∈ Ws', x ∈ Ws) ∧ PsAt w' w.heap.size (.slice A n c) n L ∧ PmsOk w' w.heap.size L ∧ Chg (ownB ps mv aA) w w' := by
  obtain ⟨u, hu⟩ : ∃ u, untilF now = u := ⟨_, rfl⟩
  rw [hu]
  obtain ⟨n0, hn0⟩ : ∃ n, Ws.length = n := ⟨_, rfl⟩
  have c1 : w.cell? ⟨ps, 1, none⟩ = some (.slice aA n0 ac) := by rw [← hn0]; exact h.bk.cell 1
  have hP : Pt w 0 aA n0 ac (Ws.map (·.g)) := by rw [← hn0]; exact h.pt
  rw [hn0] at hlen
  have HCL := Lib.hid (clone_pt aA n0 ac _ w hP (by omega))
  have HU := Lib.hid hu
  have HN := Lib.hid hn0
  have HST := Lib.hid h
  have HOK := Lib.hid hok
  have HNOW := Lib.hid hnow
  clear hu hn0 hP h hok hnow
  go_enter Try.func24, Try.ntmps24
  go_upto_if 14 with (fail)
  go_cut [5] (fun s5 wx => s5 = .int .i64 u ∧ wx = w)
  case first =>
    rcases (by omega : now < -9223372036854775508 ∨ ¬ now < -9223372036854775508) with q | q
    · have t1 : decide (now < -9223372036854775508) = true := decide_eq_true q
      have e1 : u = -9223372036854775808 := by rw [← HU.out]; unfold untilF; rw [if_pos q]
      have HE1 := Lib.hid e1
      rw [t1]
      clear q e1
      go_wp2_with fail
      go_meet
      exact ⟨by rw [HE1.out], rfl⟩
    · have t1 : decide (now < -9223372036854775508) = false := decide_eq_false q
      have e1 : wrap64 (now - 300) = u := by
        have := HNOW.out
        unfold okI at this
        rw [IntWalk.wrap64_in _ (by omega), ← HU.out]; unfold untilF; rw [if_neg q]
      have HE1 := Lib.hid e1
      rw [t1]
      clear q e1
      go_wp2_with fail
      go_meet
      exact ⟨by rw [HE1.out], rfl⟩
  case rest =>
    obtain ⟨rfl, rfl⟩ := hcut
    go_wp2_with fail
    refine HCL.out.mono ?_
    rintro e w1 ⟨cA, cc, rfl, hcl, hB1⟩
    have HTK : Hid (TkR wc ps mv aA ac Ws u 0 cA n0 cc (.slice none 0 0) w1) := Lib.hid ⟨none, 0, 0, [], rfl, ⟨by rw [List.take_zero, List.drop_zero]; exact HST.out.below hB1, Chg.of_below hB1, hcl, PsAt.none_ _ _, PmsOk.nil _ _, by rw [List.take_zero]; rfl⟩⟩
    clear hcl hB1 c1
    have hn8 : (0 : Int) ≤ (n0 : Int) := by omega
    go_wp2_with fail
    go_loopw [6, 21] (fun v6 v21 wr => ∃ k : Nat, k ≤ n0 ∧ v21 = .int .i64 k ∧ Hid (TkR wc ps mv aA ac Ws u k cA n0 cc v6 wr)) (fun _ v21 _ => n0 - (intOf v21).toNat)
    case atStart => exact ⟨0, Nat.zero_le _, rfl, HTK⟩
    case round =>
      obtain ⟨k, hk, rfl, HR⟩ := hrel
      obtain ⟨A, n, c, L, rfl, hT⟩ := HR.out
      rcases Nat.lt_or_ge k n0 with q | q
      · have t2 : decide ((k : Int) < (n0 : Int)) = true := decide_eq_true (by omega)
        obtain ⟨x, hx⟩ : ∃ x, Ws[k]? = some x := ⟨_, List.getElem?_eq_getElem (by have := HN.out; omega)⟩
        obtain ⟨gc, rfl, c3⟩ := hT.cl.cell (k := k) (x := x.g) (by rw [List.getElem?_map, hx]; rfl)
        have hxm : x ∈ (Ws.take k).filter (keepW u) ++ Ws.drop k := by rw [drop_wr hx]; simp
        have c4 := (hT.st.wh x hxm).c4
        obtain ⟨xg, hxg⟩ : ∃ xg, x.g = xg := ⟨_, rfl⟩
        obtain ⟨bg, hbg⟩ : ∃ bg, x.r.bg = bg := ⟨_, rfl⟩
        rw [hxg] at c3 c4
        rw [hbg] at c4
        have HX := Lib.hid hx
        have HXM := Lib.hid hxm
        have HXG := Lib.hid hxg
        have HBG := Lib.hid hbg
        have HT := Lib.hid hT
        have hkn : (k : Int) < (n0 : Int) := by omega
        clear hx hxm hxg hbg hT HR
        rcases (by omega : u < bg ∨ ¬ u < bg) with d | d
        · have t3 : decide (u < bg) = true := decide_eq_true d
          have HKP : Hid (keepW u x = true) := Lib.hid (by unfold keepW keepB; rw [HBG.out]; exact t3)
          have HN2 := Lib.hid (HT.out.skip HX.out HKP.out)
          clear d
          go_wp2_with fail
          go_roundw
          case rel => exact ⟨k + 1, by omega, by go_num, Lib.hid ⟨_, _, _, _, rfl, HN2.out⟩⟩
          case measure => simp [intOf]; omega
        · have t3 : decide (u < bg) = false := decide_eq_false d
          have HKP : Hid (keepW u x = false) := Lib.hid (by unfold keepW keepB; rw [HBG.out]; exact t3)
          have hst : StW wr ps mv aA ac ((Ws.take k).filter (keepW u) ++ x :: Ws.drop (k + 1)) := by rw [← drop_wr HX.out]; exact HT.out.st
          have HF := Lib.hid (forget_st ps mv aA ac ((Ws.take k).filter (keepW u)) (Ws.drop (k + 1)) x wr hst (by
            have h1 := List.length_filter_le (keepW u) (Ws.take k)
            have h2 := HN.out
            rw [List.length_append, List.length_cons, List.length_drop]
            rw [List.length_take] at h1
            omega))
          rw [HXG.out] at HF
          clear d hst
          go_wp2_with fail
          refine HF.out.mono ?_
          rintro e w2 ⟨rfl, hS2, hW2, hC2⟩
          obtain ⟨f2, dA2, tA2, dn2, dc2, tn2, tc2, hg2, _, _, hf2, _⟩ := hW2
          have m5 : w2.cell? ⟨xg, 5, none⟩ = some f2 := hg2.cell 5
          have HS2 := Lib.hid hS2
          have HC2 := Lib.hid hC2
          clear hS2 hC2 hg2
          rcases hfr : x.r.first with _ | y
          · rw [hfr] at hf2
            have e2 : f2 = .pointer none := hf2
            subst e2
            have hot : outT x.r = [] := by unfold outT; rw [hfr]
            have HN2 := Lib.hid (HT.out.give HST.out HX.out HKP.out HS2.out HC2.out hot)
            clear hfr hf2 hot
            go_wp2_with fail
            go_roundw
            case rel => exact ⟨k + 1, by omega, by go_num, Lib.hid ⟨_, _, _, _, rfl, HN2.out⟩⟩
            case measure => simp [intOf]; omega
          · obtain ⟨yp, ol, dl⟩ := y
            rw [hfr] at hf2
            obtain ⟨gf, n1, c1, n2, c2, A1, A2, rfl, hgf, hO1, hO2, _⟩ := hf2
            have hfok := (HOK.out x (List.mem_of_getElem? HX.out)).fok _ _ _ hfr
            have hot : outT x.r = [(yp, ol, dl)] := by unfold outT; rw [hfr]
            have l1 := OB.length hO1
            have l2 := OB.length hO2
            have HOW := Lib.hid (own_any yp A1 A2 n1 c1 n2 c2 w2.heap.size ol dl l1 (by have := hfok.2.2.1; omega) l2 (by have := hfok.2.2.2; omega) w2 (OB.rb hO1) (OB.rb hO2) (Nat.le_refl _))
            obtain ⟨svc, id, wh, mo, off, life, proto, src, dst⟩ := yp
            have m5' : w2.cell? ⟨xg, 5, none⟩ = some (.pointer (some ⟨gf, 0, none⟩)) := m5
            have hgf' : Bk w2 gf 26 #[.int .i64 svc, .int .i64 id, .bool wh, .bool mo, .int .i64 off, .int .i64 life, .int .i64 proto, .int .u32 src, .int .u32 dst, .slice A1 n1 c1, .slice A2 n2 c2] := hgf
            have f0 := hgf'.cell 0
            have f1 := hgf'.cell 1
            have f2 := hgf'.cell 2
            have f3 := hgf'.cell 3
            have f4 := hgf'.cell 4
            have f5 := hgf'.cell 5
            have f6 := hgf'.cell 6
            have f7 := hgf'.cell 7
            have f8 := hgf'.cell 8
            have f9 := hgf'.cell 9
            have f10 := hgf'.cell 10
            simp only [List.getElem?_toArray, List.getElem?_cons_zero, List.getElem?_cons_succ] at f0 f1 f2 f3 f4 f5 f6 f7 f8 f9 f10
            unfold pkC at HOW
            simp only at HOW
            have HOT := Lib.hid hot
            have hP2 := HT.out.ps.chg HC2.out (fun b hb => HST.out.foot_lt (.inl hb))
            have HP2 := Lib.hid hP2
            have hz2 : wc.heap.size ≤ w2.heap.size := Nat.le_trans HT.out.ch.size HC2.out.size
            have HZ2 := Lib.hid hz2
            have hn : n ≤ 100000 := by
              have h1 := HT.out.ps.len
              have h2 := congrArg List.length HT.out.ot
              rw [List.length_map] at h2
              have h3 := tickO_len u ((Ws.take k).map (·.r))
              rw [List.length_map, List.length_take] at h3
              have := HN.out
              omega
            have HNN := Lib.hid hn
            clear hfr hfok hot l1 l2 hgf hgf' hO1 hO2 hP2 hz2 m5 hn
            go_wp2_with fail
            refine HOW.out.mono ?_
            rintro e w3 ⟨B1, c3, B2, c4, rfl, hO3, hB3⟩
            have hP3 : PsAt w3 wc.heap.size (.slice A n c) n L := HP2.out.chg (Chg.of_below (F := fun _ => False) hB3) (fun _ e => e.elim)
            have HP3 := Lib.hid hP3
            have HO3 := Lib.hid hO3
            have HB3 := Lib.hid hB3
            have HZ3 : Hid (wc.heap.size ≤ w3.heap.size) := Lib.hid (Nat.le_trans HZ2.out hB3.size)
            clear hP3 hO3 hB3 f0 f1 f2 f3 f4 f5 f6 f7 f8 f9 f10 m5'
            go_wp2_with (at_builtin; refine ap_pk rfl (.tmp 39) (.tmp 47) rfl wc.heap.size rfl HP3.out ⟨⟨svc, id, wh, mo, off, life, proto, src, dst⟩, B1, n1, c3, ol, B2, n2, c4, dl⟩ rfl rfl HNN.out HZ3.out ?_; intro v4 w4 hP4 hg4; obtain ⟨A4, c4', rfl⟩ := hP4.sl; have HP4 := Lib.hid hP4; have HG4 := Lib.hid hg4; clear hP4 hg4)
            have HN2 := Lib.hid (HT.out.tell HST.out HX.out HKP.out HS2.out HC2.out HB3.out (y := ⟨⟨svc, id, wh, mo, off, life, proto, src, dst⟩, B1, n1, c3, ol, B2, n2, c4, dl⟩) HO3.out HOT.out rfl HP4.out HG4.out)
            go_roundw
            case rel => exact ⟨k + 1, by omega, by go_num, Lib.hid ⟨_, _, _, _, rfl, HN2.out⟩⟩
            case measure => simp [intOf]; omega
      · have t2 : decide ((k : Int) < (n0 : Int)) = false := decide_eq_false (by omega)
        have hkn : k = n0 := by omega
        have HT := Lib.hid hT
        clear hT HR
        go_wp2_with fail
        go_ret
        have h := HT.out
        rw [hkn] at h
        have e1 : Ws.take n0 = Ws := List.take_of_length_le (by have := HN.out; omega)
        have e2 : Ws.drop n0 = [] := List.drop_eq_nil_of_le (by have := HN.out; omega)
        have hst := h.st
        have hot := h.ot
        rw [e1, e2, List.append_nil] at hst
        rw [e1] at hot
        exact ⟨A, n, c, L, Ws.filter (keepW u), rfl, tickL_map u Ws, hot, hst, fun x hx => (List.mem_filter.1 hx).1, h.ps, h.pm, h.ch⟩
end Go.Proofs.Ytcjkhonapafndaa
