/- Proved: what waits of a list of packets, and how much a list of rows is. Conditions: none. -/
import Derived.Test.YtocigdkndlmikaaViewR
import Derived.Test.YtocigdkndlmikaaArpQ
import Derived.Test.YtocigdkndlmikaaLearnN
set_option linter.unusedVariables false
namespace Go.Proofs.Ytocigdkndlmikaa
open Go.RowKit

/-- The last three. -/
def lst3 (xs : List (List Int)) : List (List Int) := xs.drop (xs.length - 3)
theorem lst3_one (x : List Int) : lst3 [x] = [x] := rfl
theorem lst3_len (xs : List (List Int)) : (lst3 xs).length = min 3 xs.length := by simp [lst3]; omega
theorem lastW_lst3 (xs : List (List Int)) (y : List Int) : lastW (lst3 xs ++ [y]) = lst3 (xs ++ [y]) := by
  unfold lastW lst3
  simp only [List.length_append, List.length_drop, List.length_singleton]
  rcases Nat.lt_or_ge xs.length 3 with h | h
  · rw [if_neg (by omega), show xs.length - 3 = 0 by omega, show xs.length + 1 - 3 = 0 by omega]
    simp
  · rw [if_pos (by omega), List.drop_append_of_le_length (by simp; omega), List.drop_append_of_le_length (by omega), List.drop_drop, show xs.length - 3 + 1 = xs.length + 1 - 3 by omega]
/-- How much a list of rows is. -/
def rtot : List RowV → Int
  | [] => 0
  | o :: r => 1 + o.n + rtot r
theorem rtot_append : ∀ (l m : List RowV), rtot (l ++ m) = rtot l + rtot m
  | [], m => by simp [rtot]
  | o :: r, m => by simp only [List.cons_append, rtot, rtot_append r m]; omega
theorem rtot_nonneg : ∀ (l : List RowV), (l.length : Int) ≤ rtot l
  | [] => by simp [rtot]
  | o :: r => by have := rtot_nonneg r; simp only [rtot, List.length_cons]; omega
theorem rtot_mem {l : List RowV} {x : RowV} (h : x ∈ l) : (x.n : Int) ≤ rtot l := by
  induction l with
  | nil => cases h
  | cons o r ih =>
    have := rtot_nonneg r
    rcases List.mem_cons.1 h with rfl | h
    · simp only [rtot]; omega
    · have := ih h; simp only [rtot]; omega
theorem take_snoc_r {α : Type} (l : List α) (k : Nat) (o : α) (h : l[k]? = some o) : l.take (k + 1) = l.take k ++ [o] := by
  rw [List.take_add_one, h]; rfl
/-- One neighbour that waits. -/
def oneNb (ws : List (List Int)) : Nb := ⟨false, 0, 0, 0, 0, 0, 0, 13, 1, ws⟩
theorem newNb_three (l : List Int) : newNb 3 l = oneNb [l] := by unfold newNb oneNb; rw [show laterP 3 10 = 13 from by decide]
theorem waiting_one (ws : List (List Int)) (l : List Int) : waiting (oneNb ws) l = oneNb (lastW (ws ++ [l])) := rfl
theorem updT_one (a : Int) (n n' : Nb) : updT [(a, n)] a n' = [(a, n')] := by simp [updT]
theorem RowOk.below {w w' : World} {x : RowV} (h : RowOk w x) (hB : Below w.heap.size w w') : RowOk w' x :=
  ⟨Rw.more (Rw.below h.1 hB) hB.size, h.2⟩
theorem want_rows {w w' : World} {A A' : Option Addr} {l : List RowV} {s : Nat} (hR : Rw w w.heap.size A (l.map rowV)) (hok : ∀ x ∈ l, RowOk w x) (hB : Below w.heap.size w w') (hs : s = l.length - 3) (hA : s < l.length → A' = A.map (·.add s)) :
    RdRows w' ((l.map rowV).drop s) (lst3 (l.map (·.l))) ∧ Rw w' w'.heap.size A' ((l.map rowV).drop s) := by
  constructor
  · have : lst3 (l.map (·.l)) = (l.drop s).map (·.l) := by
      unfold lst3
      rw [List.length_map, ← hs, List.map_drop]
    rw [this, ← List.map_drop]
    exact RdRows.of_ok fun x hx => (hok x (List.mem_of_mem_drop hx)).below hB
  · exact Rw.more (Rw.below (hR.drop (by rw [List.length_map]; exact hA)) hB) hB.size
theorem map_add0 (A : Option Addr) : A.map (·.add 0) = A := by
  rcases A with _ | ⟨b, o, r⟩
  · rfl
  · cases r <;> simp [Addr.add]
theorem RowsAt.nil_ {w : World} {F : Nat → Prop} {vs : List Value} (h : RowsAt w F vs []) : vs = [] := by
  cases vs with
  | nil => rfl
  | cons _ _ => exact h.elim
set_option maxHeartbeats 1000000 in
/-- Each packet in its turn. -/
theorem send_keep (a : Int) (ha : okA a) (A : Option Addr) (n c B : Nat) (l : List Int) (hn : l.length = n) (hmax : n ≤ 140737488355328) (hb : Bs l) (w : World) (hr : RB w B A l) (hB : B ≤ w.heap.size)
    (F : Nat → Prop) (g : Nat) (S : List En) (h : CacheAt w F g S) (ps : List (List Int)) (hA : absT S = if ps = [] then [] else [(a, oneNb (lst3 ps))]) :
    Calls Try.prog 13 #[.pointer (some ⟨g, 0, none⟩), .int .u32 a, .slice A n c, .int .i64 3] w (SendPost w F g (toldC false noMac ps.isEmpty false) [(a, oneNb (lst3 (ps ++ [l])))]) := by
  rcases ps with _ | ⟨q, r⟩
  · obtain rfl : S = [] := by simpa [absT] using hA
    have := send_new a ha A n c B l hn hmax hb 3 (by omega) w hr hB F g [] h (fun e he => by cases he) (by simp)
    rw [newNb_three] at this
    exact this
  · rw [if_neg (by simp)] at hA
    obtain ⟨e, rfl, hea, hen⟩ := absT_one hA
    have hkn : e.n.kn = false := by rw [hen]; rfl
    have hws : e.n.ws = lst3 (q :: r) := by rw [hen]; rfl
    have hq : updT (absT [e]) a (waiting e.n l) = [(a, oneNb (lst3 ((q :: r) ++ [l])))] := by
      rw [hA, updT_one, hen, waiting_one, lastW_lst3]
    have hl3 := lst3_len (q :: r)
    rcases (by rw [hws]; omega : e.n.ws.length < 3 ∨ e.n.ws.length = 3) with d | d
    · have := send_waits a ha A n c B l hn hmax hb 3 (by omega) w hr hB F g [e] h e (by simp) hea hkn d
      rw [hq] at this
      exact this
    · have := send_waits3 a ha A n c B l hn hmax hb 3 (by omega) w hr hB F g [e] h e (by simp) hea hkn d
      rw [hq] at this
      exact this
end Go.Proofs.Ytocigdkndlmikaa
