/- Proved: room is made for a neighbour more: of those that are known the one that was to be forgotten first goes. Conditions: as the law says. -/
import Derived.Test.YtocigdkndlmikaaArp
import Derived.LoopTactic
import Derived.Deep.QuietTactic
import Derived.BigQuiet
set_option linter.unusedVariables false
set_option linter.unusedSimpArgs false
namespace Go.Proofs.Ytocigdkndlmikaa
open Go.RowKit

/-- A neighbour. -/
structure Nb where
  kn : Bool
  m0 : Int
  m1 : Int
  m2 : Int
  m3 : Int
  m4 : Int
  m5 : Int
  tk : Int
  tr : Int
  ws : List (List Int)
/-- A neighbour where it stands: its address, its block, the slice of the packets that wait. -/
structure En where
  a : Int
  p : Nat
  A : Option Addr
  k : Nat
  c : Nat
  n : Nb
def nbC (n : Nb) (A : Option Addr) (k c : Nat) : Array Value := #[.bool n.kn, .int .u8 n.m0, .int .u8 n.m1, .int .u8 n.m2, .int .u8 n.m3, .int .u8 n.m4, .int .u8 n.m5, .int .i64 n.tk, .int .i64 n.tr, .slice A k c]
def ptr (p : Nat) : Value := .pointer (some ⟨p, 0, none⟩)
def enE (e : En) : Int × Value := (e.a, ptr e.p)
def NbBk (w : World) (e : En) : Prop := Bk w e.p 74 (nbC e.n e.A e.k e.c)
/-- Is to be forgotten ahead of another one, or is it. -/
def ahead (e x : En) : Prop := e.n.tk < x.n.tk ∨ (e.n.tk = x.n.tk ∧ e.a ≤ x.a)
def isLeast (S : List En) (e : En) : Prop := e ∈ S ∧ e.n.kn = true ∧ ∀ x ∈ S, x.n.kn = true → ahead e x
def BestOf (S : List En) (left : Int → Bool) (v3 v4 : Value) : Prop :=
  (v3 = .pointer none ∧ v4 = .int .u32 0 ∧ ∀ e ∈ S, left e.a = false → e.n.kn = false) ∨
  ∃ e ∈ S, left e.a = false ∧ e.n.kn = true ∧ v3 = .pointer (some ⟨e.p, 0, none⟩) ∧ v4 = .int .u32 e.a ∧ ∀ x ∈ S, left x.a = false → x.n.kn = true → ahead e x
theorem mem_enE {S : List En} {x : Int} {v : Value} (h : (x, v) ∈ S.map enE) : ∃ e ∈ S, e.a = x ∧ v = .pointer (some ⟨e.p, 0, none⟩) := by
  obtain ⟨e, he, h2⟩ := List.mem_map.1 h
  unfold enE ptr at h2
  injection h2 with h3 h4
  exact ⟨e, he, h3, h4.symm⟩
/-- Two of one address are one. -/
theorem en_inj {S : List En} (hn : NoDup (S.map enE)) {e x : En} (he : e ∈ S) (hx : x ∈ S) (h : e.a = x.a) : e = x := by
  unfold NoDup at hn
  rw [List.map_map] at hn
  obtain ⟨i, hi⟩ := List.getElem?_of_mem he
  obtain ⟨j, hj⟩ := List.getElem?_of_mem hx
  have h1 : (S.map ((fun p => p.1) ∘ enE))[i]? = some e.a := by rw [List.getElem?_map, hi]; rfl
  have h2 : (S.map ((fun p => p.1) ∘ enE))[j]? = some e.a := by rw [List.getElem?_map, hj, h]; rfl
  have := nodup_at hn h1 h2
  subst this
  rw [hi] at hj
  injection hj
theorem BestOf.start (S : List En) : BestOf S (fun _ => true) (.pointer none) (.int .u32 0) := .inl ⟨rfl, rfl, fun _ _ h => by cases h⟩
theorem left_cases {left : Int → Bool} {a y : Int} (h : (left y && decide (y ≠ a)) = false) : left y = false ∨ y = a := by
  cases hl : left y with
  | false => exact .inl rfl
  | true => rw [hl] at h; simp at h; exact .inr h
theorem left_stays {left : Int → Bool} {a y : Int} (h : left y = false) : (left y && decide (y ≠ a)) = false := by rw [h]; rfl
theorem left_gone {left : Int → Bool} {a : Int} : (left a && decide (a ≠ a)) = false := by simp
/-- The round takes e. -/
theorem BestOf.take {S : List En} {left : Int → Bool} {v3 v4 : Value} (hn : NoDup (S.map enE)) {e : En} (he : e ∈ S) (hk : e.n.kn = true)
    (h : ∀ x ∈ S, left x.a = false → x.n.kn = true → ahead e x) : BestOf S (fun y => left y && decide (y ≠ e.a)) (.pointer (some ⟨e.p, 0, none⟩)) (.int .u32 e.a) := by
  refine .inr ⟨e, he, left_gone, hk, rfl, rfl, fun x hx hl hkx => ?_⟩
  rcases left_cases hl with h1 | h1
  · exact h x hx h1 hkx
  · rw [en_inj hn hx he h1]; exact .inr ⟨rfl, Int.le_refl _⟩
/-- The round leaves e. -/
theorem BestOf.leave_no {S : List En} {left : Int → Bool} {v3 v4 : Value} (hn : NoDup (S.map enE)) (h : BestOf S left v3 v4) {e : En} (he : e ∈ S) (hk : e.n.kn = false) : BestOf S (fun y => left y && decide (y ≠ e.a)) v3 v4 := by
  rcases h with ⟨h1, h2, h3⟩ | ⟨x, hx, h1, h2, h3, h4, h5⟩
  · refine .inl ⟨h1, h2, fun y hy hl => ?_⟩
    rcases left_cases hl with h6 | h6
    · exact h3 y hy h6
    · rw [en_inj hn hy he h6]; exact hk
  · refine .inr ⟨x, hx, left_stays h1, h2, h3, h4, fun y hy hl hky => ?_⟩
    rcases left_cases hl with h6 | h6
    · exact h5 y hy h6 hky
    · rw [en_inj hn hy he h6, hk] at hky; cases hky
theorem BestOf.leave {S : List En} {left : Int → Bool} (hn : NoDup (S.map enE)) {e x : En} (he : e ∈ S) (hx : x ∈ S) (h1 : left x.a = false) (h2 : x.n.kn = true)
    (h5 : ∀ y ∈ S, left y.a = false → y.n.kn = true → ahead x y) (ha : ahead x e) : BestOf S (fun y => left y && decide (y ≠ e.a)) (.pointer (some ⟨x.p, 0, none⟩)) (.int .u32 x.a) := by
  refine .inr ⟨x, hx, left_stays h1, h2, rfl, rfl, fun y hy hl hky => ?_⟩
  rcases left_cases hl with h6 | h6
  · exact h5 y hy h6 hky
  · rw [en_inj hn hy he h6]; exact ha
theorem ahead_trans {e x y : En} (h : e.n.tk < x.n.tk ∨ (e.n.tk = x.n.tk ∧ e.a < x.a)) (k : ahead x y) : ahead e y := by
  unfold ahead at *; omega

theorem rangeLeft_lt {w w' : World} {b r cnt cnt' : Nat} {L L' : List (Int × Value)} {left left' : Int → Bool} (h : IR mkA okA w b r L left cnt) (h' : IR mkA okA w' b r L' left' cnt') (hl : cnt' < cnt) : w'.rangeLeft b r < w.rangeLeft b r := by
  rw [h.left_eq, h'.left_eq]; exact hl
def RoomPost (w : World) (g : Nat) (mv : Option Nat) (S : List En) (e : Ending) (w' : World) : Prop :=
  (e = .returned (.bool true) ∧ S.length < 16 ∧ MapAt w' g mv (S.map enE) ∧ Chg (fun _ => False) w w') ∨
  (e = .returned (.bool true) ∧ 16 ≤ S.length ∧ (∃ x, isLeast S x ∧ MapAt w' g mv (delL (S.map enE) x.a)) ∧ Chg (fun x => mv = some x) w w') ∨
  (e = .returned (.bool false) ∧ 16 ≤ S.length ∧ (∀ x ∈ S, x.n.kn = false) ∧ MapAt w' g mv (S.map enE) ∧ Chg (fun _ => False) w w')

set_option maxRecDepth 100000 in
theorem room_small (g : Nat) (mv : Option Nat) (S : List En) (w : World) (h : MapAt w g mv (S.map enE)) (hs : S.length < 16) :
    Calls Try.prog 28 #[.pointer (some ⟨g, 0, none⟩)] w (RoomPost w g mv S) := by
  have hh := h
  obtain ⟨h1, h2, h3⟩ := h
  have c0 : w.cell? ⟨g, 0, none⟩ = some (.map mv) := h1.cell 0
  have f0 := h1.frozen 0
  rcases mv with _ | b
  · have hL := h2 rfl
    go_enter Try.func28, Try.ntmps28
    go_wp2
    go_ret
    exact .inl ⟨rfl, hs, hh, Chg.refl _ w⟩
  · have hI := h3 b rfl
    have HL := Lib.hid (show (S.map enE).length = S.length by simp)
    have hs' : (S.length : Int) < 16 := by omega
    go_enter Try.func28, Try.ntmps28
    go_wp2_with (at_len; refine wpList_len_im rfl (.tmp 10) mapT rfl mapU rfl hI ?_; rw [HL.out])
    go_ret
    exact .inl ⟨rfl, hs, hh, Chg.refl _ w⟩

set_option maxHeartbeats 4000000 in
set_option maxRecDepth 100000 in
theorem room_big (g : Nat) (mv : Option Nat) (S : List En) (w : World) (h : MapAt w g mv (S.map enE)) (hS : ∀ e ∈ S, NbBk w e) (hs : 16 ≤ S.length) :
    Calls Try.prog 28 #[.pointer (some ⟨g, 0, none⟩)] w (RoomPost w g mv S) := by
  have hh := h
  obtain ⟨h1, h2, h3⟩ := h
  have c0 : w.cell? ⟨g, 0, none⟩ = some (.map mv) := h1.cell 0
  have f0 := h1.frozen 0
  obtain ⟨b, rfl⟩ : ∃ b, mv = some b := by
    rcases mv with _ | b
    · have := h2 rfl
      have hl : (S.map enE).length = S.length := by simp
      rw [this] at hl
      simp at hl
      omega
    · exact ⟨b, rfl⟩
  have hI := h3 b rfl
  have HL := Lib.hid (show (S.map enE).length = S.length by simp)
  have hn := hI.nodup
  have HND := Lib.hid hn
  have hs' : ¬ (S.length : Int) < 16 := by omega
  have HH := Lib.hid hh
  have HS := Lib.hid hS
  have HK := Lib.hid h1
  have hgl := h1.lt
  have hbl := hI.lt
  clear hh h1 h2 h3 hn hS
  go_enter Try.func28, Try.ntmps28
  go_wp2_with (first
    | (at_len; refine wpList_len_im rfl (.tmp 10) mapT rfl mapU rfl hI ?_; rw [HL.out])
    | (at_range; refine wpList_range_im rfl (.tmp 16) mapT rfl mapU rfl hI ?_; intro w0 hR0 hg0 hs0))
  go_loopw [3, 4] (fun v3 v4 wr => ∃ (left : Int → Bool) (cnt : Nat), IR mkA okA wr b w.heap.size (S.map enE) left cnt ∧ Hid (Chg (fun _ => False) w wr) ∧ Hid (BestOf S left v3 v4))
    (fun _ _ wr => wr.rangeLeft b w.heap.size)
  case atStart => exact ⟨_, _, hR0, Lib.hid (Chg.of_grown hg0 (fun _ e => by cases e)), Lib.hid (BestOf.start S)⟩
  case round =>
    obtain ⟨left, cnt, hR, HC, HB⟩ := hrel
    have cr : wr.cell? ⟨g, 0, none⟩ = some (.map (some b)) := (HC.out.cell (p := ⟨g, 0, none⟩) hgl (fun e => e)).trans c0
    go_wp2_with (first
      | (at_next; refine wpList_next_hid rfl (.tmp 17) rfl rfl hR ?_ ?_))
    · intro hl0
      have hm1 := HH.out.chg HC.out (fun e => e) (fun _ _ e => e)
      have hl1 : ∀ e ∈ S, left e.a = false := fun e he => hl0.2 (enE e) (List.mem_map.2 ⟨e, he, rfl⟩)
      have HM1 := Lib.hid hm1
      have HL1 := Lib.hid hl1
      clear hl0 hl1 hm1
      rcases HB.out with ⟨rfl, rfl, q⟩ | ⟨e, he, q1, q2, rfl, rfl, q3⟩
      · have Q := Lib.hid q
        clear q
        go_wp2
        go_ret
        exact .inr (.inr ⟨rfl, hs, fun x hx => Q.out x hx (HL1.out x hx), HM1.out, HC.out⟩)
      · have Q : Hid (isLeast S e) := Lib.hid ⟨he, q2, fun x hx hk => q3 x hx (HL1.out x hx) hk⟩
        have hIw := HM1.out.2.2 b rfl
        have hoa : okA e.a := hIw.oks (enE e) (List.mem_map.2 ⟨e, he, rfl⟩)
        clear q1 q2 q3
        go_wp2_with (at_delete; refine wpList_delete_im rfl (.tmp 65) (.tmp 66) mapT rfl keyA mapU rfl hIw (y := e.a) rfl hoa ?_; intro w2 hI2 hg2 hs2)
        go_ret
        have hne := hIw.ne_bk HM1.out.1
        exact .inr (.inl ⟨rfl, hs, ⟨e, Q.out, HM1.out.1.grown hg2 (by intro e0; injection e0 with e0; exact hne e0.symm), (fun e0 => by cases e0), fun b' e0 => by injection e0 with e0; subst e0; exact hI2⟩,
          (HC.out.mono (fun _ _ e0 => e0.elim)).trans (Chg.of_grown (F := fun x => some b = some x) hg2 (fun _ e0 => e0)) (fun _ e0 => .inl e0)⟩)
    · intro x v w1 cnt1 hmore hen
      obtain ⟨hmem, hlx, hR1, hlt, hg1, hs1⟩ := hmore
      obtain ⟨e, he, rfl, rfl⟩ := mem_enE hmem
      change _ = Result.ok (Value.tuple #[Value.int .u32 e.a, Value.pointer (some ⟨e.p, 0, none⟩)]) w1 at hen
      have hC1 : Chg (fun _ => False) w w1 := HC.out.trans (Chg.of_grown (F := fun x => x = w.heap.size) hg1 (fun x e0 => by injection e0 with e0; exact e0.symm)) (fun x e0 => .inr (by omega))
      have hbe := (HS.out e he).chg hC1 (fun e0 => e0)
      have k0 : w1.cell? ⟨e.p, 0, none⟩ = some (.bool e.n.kn) := hbe.cell 0
      have k7 : w1.cell? ⟨e.p, 7, none⟩ = some (.int .i64 e.n.tk) := hbe.cell 7
      have HC1 := Lib.hid hC1
      have HME := Lib.hid (rangeLeft_lt hR hR1 hlt)
      have HR1 := Lib.hid hR1
      clear hbe hC1 hR hmem hlx hR1 hlt hg1 hs1
      cases hk : e.n.kn with
      | false =>
        rw [hk] at k0
        have HB2 := Lib.hid (HB.out.leave_no HND.out he hk)
        clear hk
        go_wp2
        go_quiet (fail)
        go_wp2
        go_roundw
        case rel => exact ⟨_, cnt1, HR1.out.drewN _, Lib.hid (HC1.out.drewN _), HB2⟩
        case measure => exact HME.out
      | true =>
        rw [hk] at k0
        rcases HB.out with ⟨rfl, rfl, q⟩ | ⟨x, hx, q1, q2, rfl, rfl, q3⟩
        · have HB2 := Lib.hid (BestOf.take (v3 := .pointer none) (v4 := .int .u32 0) HND.out he hk (fun x hx hl hkx => by rw [q x hx hl] at hkx; cases hkx))
          clear hk q
          go_wp2
          go_quiet (fail)
          go_wp2
          go_roundw
          case rel => exact ⟨_, cnt1, HR1.out.drewN _, Lib.hid (HC1.out.drewN _), HB2⟩
          case measure => exact HME.out
        · have hbx := (HS.out x hx).chg HC1.out (fun e0 => e0)
          have x7 : w1.cell? ⟨x.p, 7, none⟩ = some (.int .i64 x.n.tk) := hbx.cell 7
          clear hbx
          rcases (by omega : e.n.tk < x.n.tk ∨ (e.n.tk = x.n.tk ∧ e.a < x.a) ∨ (e.n.tk = x.n.tk ∧ x.a ≤ e.a) ∨ x.n.tk < e.n.tk) with d | ⟨d1, d2⟩ | ⟨d1, d2⟩ | d
          · have HB2 := Lib.hid (BestOf.take (v3 := .pointer none) (v4 := .int .u32 0) HND.out he hk (fun y hy hl hky => ahead_trans (.inl d) (q3 y hy hl hky)))
            have d' : decide (e.n.tk < x.n.tk) = true := by simpa using d
            clear hk q1 q2 q3 d
            go_wp2
            go_quiet (fail)
            go_wp2
            go_roundw
            case rel => exact ⟨_, cnt1, HR1.out.drewN _, Lib.hid (HC1.out.drewN _), HB2⟩
            case measure => exact HME.out
          · have HB2 := Lib.hid (BestOf.take (v3 := .pointer none) (v4 := .int .u32 0) HND.out he hk (fun y hy hl hky => ahead_trans (.inr ⟨d1, d2⟩) (q3 y hy hl hky)))
            rw [← d1] at x7
            have d3 : decide (e.a < x.a) = true := by simpa using d2
            clear hk q1 q2 q3 d1 d2
            go_wp2
            go_quiet (fail)
            go_wp2
            go_roundw
            case rel => exact ⟨_, cnt1, HR1.out.drewN _, Lib.hid (HC1.out.drewN _), HB2⟩
            case measure => exact HME.out
          · have HB2 := Lib.hid (BestOf.leave HND.out he hx q1 q2 q3 (.inr ⟨d1.symm, d2⟩))
            rw [← d1] at x7
            have d3 : decide (e.a < x.a) = false := by simp; omega
            clear hk q1 q2 q3 d1 d2
            go_wp2
            go_quiet (fail)
            go_wp2
            go_roundw
            case rel => exact ⟨_, cnt1, HR1.out.drewN _, Lib.hid (HC1.out.drewN _), HB2⟩
            case measure => exact HME.out
          · have HB2 := Lib.hid (BestOf.leave HND.out he hx q1 q2 q3 (.inl d))
            have d' : decide (e.n.tk < x.n.tk) = false := by simp; omega
            have d'' : (e.n.tk == x.n.tk) = false := by simp; omega
            clear hk q1 q2 q3 d
            go_wp2
            go_quiet (fail)
            go_wp2
            go_roundw
            case rel => exact ⟨_, cnt1, HR1.out.drewN _, Lib.hid (HC1.out.drewN _), HB2⟩
            case measure => exact HME.out
end Go.Proofs.Ytocigdkndlmikaa
