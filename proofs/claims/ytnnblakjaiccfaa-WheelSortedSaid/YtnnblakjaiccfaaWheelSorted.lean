/- Proved: what is due at one call comes by its tick, and of one tick by its key. Conditions: none, for every input. -/
import Derived.Test.YtnnblakjaiccfaaRows
import Derived.WalkKit
import Derived.ProofKit
import Derived.OpenShut
import Derived.ShutString
import Derived.ChangeOld
import Derived.Below
import Derived.SizedLaws
import Derived.Test.YtnnblakjaiccfaaRowI
namespace Go.Proofs.Ytnnblakjaiccfaa.wheelSorted
open Go.ChangeShapes Go.WideShapes Go.ChangeAt Go.RowKit
open Go.ChangeMaps (open_string shut_string)
set_option linter.unusedVariables false

theorem own : ownKnob Try.prog.godebug = none := by kernel_rfl
theorem laidOut : laidOutB Try.prog = true := by kernel_rfl

/-! ### the walk -/
set_option maxRecDepth 100000 in
set_option maxHeartbeats 4000000 in
theorem walk (a0 : Option Addr) (len0 cap0 : Nat) (z0 : List Int) (a1 : Option Addr) (len1 cap1 : Nat) (z1 : List Int) (w : World) (w0 : IsRow .i64 w a0 len0 cap0 z0 ∧ cap0 * 8 ≤ 140737488351232) (w1 : IsRow .i64 w a1 len1 cap1 z1 ∧ cap1 * 8 ≤ 140737488351232) :
    Calls Try.prog 5 #[.slice a0 len0 cap0, .slice a1 len1 cap1] w fun e w' => e = .returned (.bool true) ∧ Below w.heap.size w w' := by
  obtain ⟨hI0, hcp0⟩ := w0
  obtain ⟨hI1, hcp1⟩ := w1
  obtain ⟨kl, hk⟩ := hI0.ri
  obtain ⟨al, ha⟩ := hI1.ri
  obtain ⟨_, hkn, hkc, _⟩ := id hk
  obtain ⟨_, han, hac, _⟩ := id ha
  have HK := Lib.hid hk
  have HA := Lib.hid ha
  have HKN := Lib.hid hkn
  have HAN := Lib.hid han
  clear hI0 hI1 hk ha hkn han
  rcases (by omega : 256 < len0 ∨ (len0 ≤ 256 ∧ len1 < len0) ∨ (len0 ≤ 256 ∧ len0 ≤ len1)) with d | ⟨d, d2⟩ | ⟨d, d2⟩
  · go_enter Try.func5, Try.ntmps5
    go_wp2_with fail
    refine (known_any _).mono ?_
    rintro e v1 ⟨rfl, hB1⟩
    go_wp2
    go_ret
    exact ⟨rfl, hB1⟩
  · have e1 : decide ((256 : Int) < (len0 : Int)) = false := decide_eq_false (by omega)
    have e2 : decide ((len1 : Int) < (len0 : Int)) = true := decide_eq_true (by omega)
    go_enter Try.func5, Try.ntmps5
    go_wp2_with fail
    refine (known_any _).mono ?_
    rintro e v1 ⟨rfl, hB1⟩
    go_wp2
    go_ret
    exact ⟨rfl, hB1⟩
  have e1 : decide ((256 : Int) < (len0 : Int)) = false := decide_eq_false (by omega)
  have e2 : decide ((len1 : Int) < (len0 : Int)) = false := decide_eq_false (by omega)
  have e1' : decide (256 < len0) = false := decide_eq_false (by omega)
  have e2' : decide (len1 < len0) = false := decide_eq_false (by omega)
  obtain ⟨p, hp⟩ : ∃ p, w.heap.size = p := ⟨_, rfl⟩
  obtain ⟨W, hW⟩ : ∃ W, w.alloc (.cells whZ 27) = W := ⟨_, rfl⟩
  have h0 : Wh W p p (setAll kl al 0) := by rw [← hW, ← hp]; exact Wh.new w
  have hB : Below p w W := by rw [← hW, ← hp]; exact (Below.refl _ _).alloc (Nat.le_refl _) _
  have HS0 : Hid (Wh W p p (setAll kl al 0) ∧ Below p w W) := Lib.hid ⟨h0, hB⟩
  have HKB : Hid (∀ X, Below p w X → RowI X a0 len0 cap0 kl) := Lib.hid (fun X hX => HK.out.below (hp ▸ hX))
  have HAB : Hid (∀ X, Below p w X → RowI X a1 len1 cap1 al) := Lib.hid (fun X hX => HA.out.below (hp ▸ hX))
  have HW := Lib.hid hW
  have HP := Lib.hid hp
  have hzv := zero_wh
  clear hW hp hB h0
  go_enter Try.func5, Try.ntmps5
  go_wp2
  rw [HW.out, HP.out]
  go_loopw [6] (fun v6 wr => ∃ i : Nat, i ≤ len0 ∧ v6 = .int .i64 i ∧ Hid (Wh wr p p (setAll kl al i) ∧ Below p w wr)) (fun v6 _ => len0 - (intOf v6).toNat)
  case atStart => exact ⟨0, Nat.zero_le _, rfl, HS0⟩
  case round =>
    obtain ⟨i, hi, rfl, HC⟩ := hrel
    rcases Nat.lt_or_ge i len0 with q | q
    · obtain ⟨kb, ko, hka, hkb, hkc2, hko⟩ := (HK.out).at_ q
      obtain ⟨ab, ao, haa, hab, hac2, hao⟩ := (HA.out).at_ (show i < len1 by omega)
      subst hka; subst haa
      rw [HP.out] at hkb hab
      obtain ⟨kv, hkv⟩ : ∃ kv, kl[i]?.getD 0 = kv := ⟨_, rfl⟩
      obtain ⟨av, hav⟩ : ∃ av, al[i]?.getD 0 = av := ⟨_, rfl⟩
      rw [hkv] at hkc2 hko
      rw [hav] at hac2 hao
      have q' : (i : Int) < len0 := by omega
      have q2' : (i : Int) < len1 := by omega
      have hc1 : wr.drew.cell? ⟨kb, ko + i, none⟩ = some (.int .i64 kv) := (HC.out.2.cell (p := ⟨kb, ko + i, none⟩) hkb).trans hkc2
      have hc2 : wr.drew.cell? ⟨ab, ao + i, none⟩ = some (.int .i64 av) := (HC.out.2.cell (p := ⟨ab, ao + i, none⟩) hab).trans hac2
      have hc3 : wr.cell? ⟨ab, ao + i, none⟩ = some (.int .i64 av) := hc2
      rcases (by omega : av < 0 ∨ (0 ≤ av ∧ 1099511627776 < av) ∨ (0 ≤ av ∧ av ≤ 1099511627776)) with z | ⟨z, z2⟩ | ⟨z, z2⟩
      · go_wp2_with fail
        refine (known_any _).mono ?_
        rintro e v1 ⟨rfl, hB1⟩
        go_wp2
        go_ret
        exact ⟨rfl, by rw [HP.out]; exact HC.out.2.trans (hB1.mono HC.out.1.size)⟩
      · have t1 : decide (av < 0) = false := decide_eq_false (by omega)
        go_wp2_with fail
        refine (known_any _).mono ?_
        rintro e v1 ⟨rfl, hB1⟩
        go_wp2
        go_ret
        exact ⟨rfl, by rw [HP.out]; exact HC.out.2.trans (hB1.mono HC.out.1.size)⟩
      · have t1 : decide (av < 0) = false := decide_eq_false (by omega)
        have t2 : decide (1099511627776 < av) = false := decide_eq_false (by omega)
        have HS := Lib.hid (set_wh p p (setAll kl al i) kv av hko hao wr.drew (HC.out.1.drewN 1))
        have hss := setAll_set kl al i (by omega) (by rw [hav]; exact ⟨z, z2⟩)
        rw [hkv, hav] at hss
        rw [hss] at HS
        clear hss hkv hav
        have hkp : kb < p := hkb
        have hap : ab < p := hab
        go_wp2
        go_region_held3 (fun w' => w'.cell? ⟨kb, ko + i, none⟩ = some (.int .i64 kv) ∧ w'.cell? ⟨ab, ao + i, none⟩ = some (.int .i64 av))
          (first | (with_reducible exact ⟨by assumption, by assumption⟩) | go_keep)
          (first
            | (go_at_call 9; refine HS.out.mono ?_; rintro e W2 ⟨rfl, h2, hB2⟩; have x1 := bcell hB2 hkp hc1; have x2 := bcell hB2 hap hc2))
        have HN : Hid (Wh W2 p p (setAll kl al (i + 1)) ∧ Below p w W2) := Lib.hid ⟨h2, HC.out.2.drew.trans hB2⟩
        clear h2 hB2 x1 x2
        go_wp2
        go_roundw
        case rel => exact ⟨i + 1, by omega, by go_num, HN⟩
        case measure => simp [intOf]; omega
    · obtain rfl : i = len0 := by omega
      obtain ⟨M, hM⟩ : ∃ M, setAll kl al i = M := ⟨_, rfl⟩
      have HMK : Hid (∀ t ∈ M, t.1 ∈ kl) := Lib.hid (fun t ht => by
        rw [← hM] at ht
        exact List.mem_of_mem_take (setAll_key kl al i (by rw [HKN.out]; exact Nat.le_refl _) t ht))
      obtain ⟨hwh, hbp⟩ := HC.out
      rw [hM] at hwh
      obtain ⟨g2, hg2⟩ : ∃ g2, wr.heap.size = g2 := ⟨_, rfl⟩
      obtain ⟨W0, hW0⟩ : ∃ W0, wr = W0 := ⟨_, rfl⟩
      subst hW0
      have hkk := HKB.out wr hbp
      have HKK := Lib.hid hkk
      have hpg : p ≤ g2 := by rw [← hg2]; exact hwh.size
      have HWH := Lib.hid hwh
      have HBP := Lib.hid hbp
      have HG2 := Lib.hid hg2
      have q' : ¬ (i : Int) < i := by omega
      obtain ⟨ka, hka⟩ : ∃ ka, (fun x => (getM M x).getD 0) = ka := ⟨_, rfl⟩
      have HKA := Lib.hid hka
      have H20 : Hid (∃ A7 c7, Value.slice none 0 0 = .slice A7 0 c7 ∧ Ow 3 wr g2 A7 0 c7 (int64s ((kl.take 0).map ka)) ∧ Below g2 wr wr) := Lib.hid ⟨none, 0, rfl, Ow.none_ _ _ _, Below.refl _ _⟩
      clear hwh hbp hg2 hkk hM hka HC
      go_wp2
      generalize wr = W0 at *
      go_loopw [7, 8] (fun v7 v8 wr => ∃ k : Nat, k ≤ i ∧ v8 = .int .i64 k ∧ Hid (∃ A7 c7, v7 = .slice A7 k c7 ∧ Ow 3 wr g2 A7 k c7 (int64s ((kl.take k).map ka)) ∧ Below g2 W0 wr)) (fun _ v8 _ => i - (intOf v8).toNat)
      case atStart => exact ⟨0, Nat.zero_le _, rfl, H20⟩
      case round =>
        obtain ⟨k, hk, rfl, HD⟩ := hrel
        obtain ⟨A7, c7, rfl, hO7, hB7⟩ := HD.out
        rcases Nat.lt_or_ge k i with y | y
        · obtain ⟨kb, ko, hka, hkb, hkc2, hko⟩ := HKK.out.at_ y
          subst hka
          obtain ⟨kv, hkv⟩ : ∃ kv, kl[k]?.getD 0 = kv := ⟨_, rfl⟩
          rw [hkv] at hkc2 hko
          rw [HG2.out] at hkb
          have hc1 : wr.cell? ⟨kb, ko + k, none⟩ = some (.int .i64 kv) := (hB7.cell (p := ⟨kb, ko + k, none⟩) hkb).trans hkc2
          have hwr := HWH.out.below (HG2.out.symm ▸ hB7)
          have HAT := Lib.hid (at_wh p p M kv hko wr hwr)
          have hzw : g2 ≤ wr.heap.size := by have := hB7.size; have := HG2.out; omega
          have HO7 := Lib.hid hO7
          have HB7 := Lib.hid hB7
          have HKV := Lib.hid hkv
          obtain ⟨mv, hmv⟩ : ∃ mv, ka kv = mv := ⟨_, rfl⟩
          have hmv2 : (getM M kv).getD 0 = mv := by rw [← hmv, ← HKA.out]
          rw [hmv2] at HAT
          have HMV := Lib.hid hmv
          obtain ⟨bo, hbo⟩ : ∃ bo, (getM M kv).isSome = bo := ⟨_, rfl⟩
          rw [hbo] at HAT
          have y' : (k : Int) < i := by omega
          have hk5 : k ≤ 100000 := by omega
          clear hO7 hB7 hkv hmv hmv2 hbo hwr HD hkc2
          go_wp2_with fail
          refine HAT.out.mono ?_
          rintro e W3 ⟨rfl, rfl⟩
          go_wp2_with (at_builtin; refine ap_int rfl (.tmp 73) (.tmp 75) rfl g2 rfl HO7.out mv rfl hk5 hzw ?_; intro A' c' W4 hO4 hg4 hn4)
          have HN : Hid (∃ A7 c7, Value.slice A' (k + 1) c' = .slice A7 (k + 1) c7 ∧ Ow 3 W4 g2 A7 (k + 1) c7 (int64s ((kl.take (k + 1)).map ka)) ∧ Below g2 W0 W4) := Lib.hid ⟨A', c', rfl, by
            rw [take_succ_getD kl k (by rw [HKN.out]; exact y), HKV.out, List.map_append, List.map_cons, List.map_nil, HMV.out]
            exact hO4, HB7.out.grown hg4 hzw (fun b e => (Ow.lt HO7.out b e).1)⟩
          clear hO4 hg4 hn4
          go_roundw
          case rel => exact ⟨k + 1, by omega, by go_num, HN⟩
          case measure => simp [intOf]; omega
        · obtain rfl : k = i := by omega
          rw [List.take_of_length_le (by rw [HKN.out]; exact Nat.le_refl _)] at hO7
          obtain ⟨F, L, mvv, hAt, hFB, hBs⟩ := HWH.out
          have hbelow : Below W0.heap.size W0 wr := HG2.out.symm ▸ hB7
          have HDU := Lib.hid (due_any sorts_tm p L mvv M _ 1099511627776 wr (hAt.norm.below hbelow))
          have HO7 := Lib.hid hO7
          have HB7 := Lib.hid hB7
          have HFB := Lib.hid hFB
          have HOK := Lib.hid hAt.ok
          have hzw : g2 ≤ wr.heap.size := by have := hB7.size; have := HG2.out; omega
          have y' : ¬ (k : Int) < k := by omega
          clear hO7 hB7 hFB hbelow hAt HD hBs
          go_wp2_with fail
          refine HDU.out.mono ?_
          rintro e Y ⟨D, A, n, c, L', rfl, hperm, hsort, hOD, hW5, hC5⟩
          rw [show dueS 1099511627776 M = M from List.filter_eq_self.2 (fun t ht => by simpa using (HOK.out.bd t ht).2.2)] at hperm
          rw [show (M.filter fun t => decide ((1099511627776 : Int) < t.2)) = [] from List.filter_eq_nil_iff.2 (fun t ht => by have := (HOK.out.bd t ht).2.2; simp; omega)] at hW5
          have hBY : Below p wr Y := hC5.below (fun b hb => HFB.out b hb.1) (by omega)
          have HBY : Hid (Below p w Y) := Lib.hid ((HBP.out.trans (HB7.out.mono hpg)).trans hBY)
          have hOY : Ow 3 Y g2 A7 k c7 (int64s (kl.map ka)) := by
            refine ⟨HO7.out.1, ?_⟩
            rcases HO7.out.2 with h2 | ⟨g', cap, cur, h2, h3, h4, h5⟩
            · exact .inl h2
            · exact .inr ⟨g', cap, cur, h2, h3, (hC5.block g' (Array.getElem?_eq_some_iff.1 h4).1 (fun h => by have h9 := h.2; have := HG2.out; omega)).trans h4, h5⟩
          have hdn : (D.map (·.1)).Nodup := (hperm.map (·.1)).nodup_iff.2 HOK.out.keys
          have hDM : ∀ t ∈ D, t.1 ∈ kl ∧ ka t.1 = t.2 := fun t ht => by
            have htM := hperm.mem_iff.1 ht
            refine ⟨HMK.out t htM, ?_⟩
            rw [← HKA.out]
            show (getM M t.1).getD 0 = t.2
            rw [getM_of HOK.out.keys (show (t.1, t.2) ∈ M from htM)]; rfl
          have hDn : D.length = n := by have := hOD.length; simpa [int64s] using this
          have hn6 : n ≤ 256 := by
            have h1 := hperm.length_eq
            have h2 := HOK.out.room
            omega
          have HRY := Lib.hid (HKB.out Y HBY.out)
          have HOY := Lib.hid (Ow.rw hOY)
          have HOD := Lib.hid (Ow.rw hOD)
          have HSO := Lib.hid hsort
          have HDN := Lib.hid hdn
          have HDM := Lib.hid hDM
          have HDL := Lib.hid hDn
          have HLEN := Lib.hid (fun j => len_any p L' mvv [] _ (Y.drewN j) (hW5.drewN j))
          have hzY : p ≤ Y.heap.size := by have := hBY.size; omega
          clear hperm hsort hOD hW5 hC5 hBY hOY hdn hDM hDn
          go_wp2
          go_loopw [12] (fun v12 wr => ∃ i jj : Nat, 1 ≤ i ∧ v12 = .int .i64 i ∧ wr = Y.drewN jj) (fun v12 _ => n - (intOf v12).toNat)
          case atStart => exact ⟨1, 0, Nat.le_refl _, by go_num, rfl⟩
          case round =>
            obtain ⟨i, jj, hi1, rfl, rfl⟩ := hrel
            rcases Nat.lt_or_ge i n with q | q
            · obtain ⟨i1, rfl⟩ : ∃ i1, i = i1 + 1 := ⟨i - 1, by omega⟩
              obtain ⟨x, hx⟩ : ∃ x, D[i1]? = some x := ⟨_, List.getElem?_eq_getElem (by rw [HDL.out]; omega)⟩
              obtain ⟨z, hz⟩ : ∃ z, D[i1 + 1]? = some z := ⟨_, List.getElem?_eq_getElem (by rw [HDL.out]; omega)⟩
              obtain ⟨hxk, hxa⟩ := HDM.out x (List.mem_of_getElem? hx)
              obtain ⟨hzk, hza⟩ := HDM.out z (List.mem_of_getElem? hz)
              have hlt := sorted_lt HSO.out HDN.out hx hz
              obtain ⟨lb, lo, hAA, _, hc1⟩ := HOD.out.at_ (k := i1) (u := .int .i64 x.1) (by simp [int64s, hx])
              subst hAA
              obtain ⟨lb', lo', hAA, _, hc2⟩ := HOD.out.at_ (k := i1 + 1) (u := .int .i64 z.1) (by simp [int64s, hz])
              injection hAA with hAA
              injection hAA with hAA1 hAA2
              subst hAA1; subst hAA2
              have hne : x.1 ≠ z.1 := by
                obtain ⟨p1, e1⟩ := List.getElem?_eq_some_iff.1 hx
                obtain ⟨p2, e2⟩ := List.getElem?_eq_some_iff.1 hz
                have := List.pairwise_iff_getElem.1 HDN.out i1 (i1 + 1) (by simpa using p1) (by simpa using p2) (Nat.lt_succ_self _)
                simp only [List.getElem_map] at this
                rw [e1, e2] at this
                exact this
              have hw1 : IntKind.i64.wrap (((i1 + 1 : Nat) : Int) - 1) = (i1 : Int) := by rw [IntWalk.i64_in _ (by omega)]; omega
              have hq1 : ((i1 + 1 : Nat) : Int) < n := by omega
              have hq2 : (i1 : Int) < n := by omega
              have HXA := Lib.hid (And.intro hxa hza)
              have HXK := Lib.hid (And.intro hxk hzk)
              have HLT := Lib.hid hlt
              obtain ⟨x1, x2⟩ := x
              obtain ⟨z1, z2⟩ := z
              simp only at hc1 hc2 hne HXA HXK HLT
              have HNE := Lib.hid hne
              clear hx hz hxk hxa hzk hza hlt hne
              go_wp2
              go_loopw [13, 14, 15] (fun v13 v14 v15 wr => ∃ kk jj : Nat, kk ≤ k ∧ v15 = .int .i64 kk ∧ v13 = .int .i64 (lookP kl kk x1 x2) ∧ v14 = .int .i64 (lookP kl kk z1 z2) ∧ wr = Y.drewN jj) (fun _ _ v15 _ => k - (intOf v15).toNat)
              case atStart => exact ⟨0, _, Nat.zero_le _, rfl, rfl, rfl, rfl⟩
              case round =>
                obtain ⟨kk, jj, hkk, rfl, rfl, rfl, rfl⟩ := hrel
                rcases Nat.lt_or_ge kk k with r | r
                · obtain ⟨kb, ko, hka, hkb, hkc1, hko⟩ := HRY.out.at_ r
                  obtain ⟨ob, oo, hoa, hob, hoc⟩ := HOY.out.at_ (k := kk) (u := .int .i64 (ka (kl[kk]?.getD 0))) (by
                    rw [int64s_get _ _ (by rw [List.length_map, HKN.out]; exact r), List.getElem?_map, List.getElem?_eq_getElem (by rw [HKN.out]; exact r)]; rfl)
                  subst hka; subst hoa
                  obtain ⟨kv, hkv⟩ : ∃ kv, kl[kk]?.getD 0 = kv := ⟨_, rfl⟩
                  rw [hkv] at hkc1 hko hoc
                  have r' : (kk : Int) < k := by omega
                  clear hkb hob
                  rcases (show kv = x1 ∨ kv = z1 ∨ (kv ≠ x1 ∧ kv ≠ z1) from Classical.byCases (fun h => .inl h) (fun h => Classical.byCases (fun h2 => .inr (.inl h2)) (fun h2 => .inr (.inr ⟨h, h2⟩)))) with e | e | ⟨e, e'⟩
                  · have b1 : (kv == x1) = true := by subst e; exact beq_self_eq_true _
                    have b2 : (kv == z1) = false := by exact beq_eq_false_iff_ne.2 (by first | assumption | (subst e; first | exact HNE.out | exact fun h => HNE.out h.symm))
                    have HL1 : Hid (x2 = lookP kl (kk + 1) x1 x2) := Lib.hid ((lookP_hit (by rw [HKN.out]; exact r) (by rw [hkv]; exact e)).symm)
                    have HL2 : Hid (lookP kl kk z1 z2 = lookP kl (kk + 1) z1 z2) := Lib.hid ((lookP_miss (by rw [HKN.out]; exact r) (by rw [hkv]; exact fun h => HNE.out (e.symm.trans h))).symm)
                    have hv : ka kv = x2 := by rw [e]; exact HXA.out.1
                    rw [hv] at hoc
                    clear hkv
                    go_wp2
                    go_quiet (fail)
                    go_wp2
                    go_quiet (fail)
                    go_wp2
                    go_roundw
                    case rel => exact ⟨kk + 1, _, by omega, by go_num, congrArg (Value.int .i64) HL1.out, congrArg (Value.int .i64) HL2.out, rfl⟩
                    case measure => simp [intOf]; omega
                  · have b1 : (kv == x1) = false := by exact beq_eq_false_iff_ne.2 (by first | assumption | (subst e; first | exact HNE.out | exact fun h => HNE.out h.symm))
                    have b2 : (kv == z1) = true := by subst e; exact beq_self_eq_true _
                    have HL1 : Hid (lookP kl kk x1 x2 = lookP kl (kk + 1) x1 x2) := Lib.hid ((lookP_miss (by rw [HKN.out]; exact r) (by rw [hkv]; exact fun h => HNE.out (h.symm.trans e))).symm)
                    have HL2 : Hid (z2 = lookP kl (kk + 1) z1 z2) := Lib.hid ((lookP_hit (by rw [HKN.out]; exact r) (by rw [hkv]; exact e)).symm)
                    have hv : ka kv = z2 := by rw [e]; exact HXA.out.2
                    rw [hv] at hoc
                    clear hkv
                    go_wp2
                    go_quiet (fail)
                    go_wp2
                    go_quiet (fail)
                    go_wp2
                    go_roundw
                    case rel => exact ⟨kk + 1, _, by omega, by go_num, congrArg (Value.int .i64) HL1.out, congrArg (Value.int .i64) HL2.out, rfl⟩
                    case measure => simp [intOf]; omega
                  · have b1 : (kv == x1) = false := by exact beq_eq_false_iff_ne.2 (by first | assumption | (subst e; first | exact HNE.out | exact fun h => HNE.out h.symm))
                    have b2 : (kv == z1) = false := by exact beq_eq_false_iff_ne.2 (by first | assumption | (subst e; first | exact HNE.out | exact fun h => HNE.out h.symm))
                    have HL1 : Hid (lookP kl kk x1 x2 = lookP kl (kk + 1) x1 x2) := Lib.hid ((lookP_miss (by rw [HKN.out]; exact r) (by rw [hkv]; exact e)).symm)
                    have HL2 : Hid (lookP kl kk z1 z2 = lookP kl (kk + 1) z1 z2) := Lib.hid ((lookP_miss (by rw [HKN.out]; exact r) (by rw [hkv]; exact e')).symm)
                    clear hkv
                    go_wp2
                    go_quiet (fail)
                    go_wp2
                    go_quiet (fail)
                    go_wp2
                    go_roundw
                    case rel => exact ⟨kk + 1, _, by omega, by go_num, congrArg (Value.int .i64) HL1.out, congrArg (Value.int .i64) HL2.out, rfl⟩
                    case measure => simp [intOf]; omega
                · obtain rfl : kk = k := by omega
                  have r' : ¬ (kk : Int) < kk := by omega
                  have g1 : lookP kl kk x1 x2 = x2 := by unfold lookP; rw [List.take_of_length_le (by rw [HKN.out]; exact Nat.le_refl _), if_pos HXK.out.1]
                  have g2' : lookP kl kk z1 z2 = z2 := by unfold lookP; rw [List.take_of_length_le (by rw [HKN.out]; exact Nat.le_refl _), if_pos HXK.out.2]
                  rw [g1, g2']
                  clear g1 g2'
                  have k1 : decide (z2 < x2) = false := decide_eq_false (by have := HLT.out; omega)
                  rcases HLT.out with e | ⟨e, e'⟩
                  · have k2 : (x2 == z2) = false := beq_eq_false_iff_ne.2 (by omega)
                    go_wp2
                    go_quiet (fail)
                    go_wp2
                    go_roundw
                    case rel => exact ⟨i1 + 2, _, by omega, by go_num, rfl⟩
                    case measure => simp [intOf]; omega
                  · have k2 : (x2 == z2) = true := beq_iff_eq.2 e
                    have k3 : decide (z1 ≤ x1) = false := decide_eq_false (by omega)
                    clear e e'
                    go_wp2
                    go_quiet (fail)
                    go_wp2
                    go_roundw
                    case rel => exact ⟨i1 + 2, _, by omega, by go_num, rfl⟩
                    case measure => simp [intOf]; omega
            · have q' : ¬ (i : Int) < n := by omega
              go_wp2_with fail
              refine (HLEN.out _).mono ?_
              rintro e W5 ⟨rfl, rfl⟩
              go_wp2_with fail
              refine (known_any _).mono ?_
              rintro e W9 ⟨rfl, hB9⟩
              go_wp2
              go_ret
              exact ⟨rfl, by rw [HP.out]; exact (bel_drewN HBY.out _).trans (hB9.mono hzY)⟩

/-! ### the row -/
set_option maxRecDepth 100000 in
theorem lifted (os : Os) (started : os.Started) (H : Type) (enc : TypeId × Value → H) :
    ReturnsInHanded {} Try.checked os 5 .any (Rows.wheelSortedSpec.pre6 enc Try.prog Try.f5 Rows.wheelSortedRow.domain false) (Rows.wheelSortedSpec.post enc Try.prog Try.f5 false true false false) := by
  refine returnsInHanded_of_change_sized (C := Try.checked) own started (by kernel_rfl) Try.func5
    (ChangeSpec.witness6 (enc := enc) (C := Try.checked) false ⟨#[], #[.slice none 0 0, .slice none 0 0], []⟩ 8 (by kernel_rfl) (by kernel_rfl) (by kernel_rfl) (by kernel_rfl)) ?_
  intro W base args ds gs before hval0 hW hcnd hsz0 _
  have hval : ∀ (j : Nat) t v, Try.f5.params[j]? = some t → args[j]? = some v → Value.okWide Try.prog W .any base t v := hval0
  have hsz : (DataW.weightsEach Try.prog (Try.f5.params.toList ++ Rows.wheelSortedSpec.plain.varTypes Try.prog) (ds ++ gs)).all (· ≤ reachBytes) = true := hsz0
  clear hsz0
  have hW' := hW
  obtain ⟨p, q, hA0, hV, rfl, hfz, hnd⟩ := hW
  have hA : DataW.TrodAll enc Try.prog W 0 (fun _ => true) true Try.f5.params.toList args.toList ds p := hA0
  rw [Try.params5] at hA hval hsz
  obtain ⟨v0, vs0, d0, ds0, p0, q0, hargs, rfl, rfl, h0, r0⟩ := trodAll_cons hA
  obtain ⟨v1, vs1, d1, ds1, p1, q1, rfl, rfl, rfl, h1, r1⟩ := trodAll_cons r0
  obtain ⟨rfl, rfl, rfl⟩ := trodAll_nil r1
  obtain rfl : args = #[v0, v1] := by cases args; simp_all
  obtain ⟨rfl, rfl⟩ := trodVars_none hV
  obtain ⟨a0, len0, cap0, rfl⟩ := okWide_slice Try.underlying35 (hval 0 35 v0 rfl rfl)
  have k0 := h0
  have lt0 : ∀ x ∈ p0, x.block < W.heap.size := by obtain ⟨m, hm⟩ := k0; exact DataW.trod_lt m _ _ _ hm
  obtain ⟨z0, w0⟩ : ∃ zs, IsRow .i64 W a0 len0 cap0 zs ∧ cap0 * 8 ≤ 140737488351232 := by
    obtain ⟨fuel, hf⟩ := h0
    rcases open_ints Try.underlying35 Try.underlying3 (by kernel_rfl) hf with ⟨hcs, _⟩ | ⟨x, l, c, zs, hcs, _, hl, hm, hz, hx, hcell, hwz⟩
    · simp [Value.cells] at hcs
      obtain ⟨rfl, rfl, rfl⟩ := hcs
      exact ⟨[], .inl ⟨rfl, rfl, rfl, rfl⟩, by omega⟩
    · simp [Value.cells] at hcs
      obtain ⟨rfl, rfl, rfl⟩ := hcs
      simp only [Prod.mk.injEq] at hx
      obtain ⟨rfl, rfl⟩ := hx
      simp only [if_true] at hz
      have hm2 := sized_slice hsz (j := 0) (t := 35) (e := 3) rfl rfl Try.underlying35
      rw [show Try.prog.bytesOf 3 = 8 from by kernel_rfl] at hm2
      simp only [lits, List.length_map, List.length_take, List.length_drop, reachBytes] at hm2
      exact ⟨zs, .inr ⟨_, rfl, hl, hm, hz, hcell, hwz⟩, by omega⟩
  obtain ⟨a1, len1, cap1, rfl⟩ := okWide_slice Try.underlying35 (hval 1 35 v1 rfl rfl)
  have k1 := h1
  have lt1 : ∀ x ∈ p1, x.block < W.heap.size := by obtain ⟨m, hm⟩ := k1; exact DataW.trod_lt m _ _ _ hm
  obtain ⟨z1, w1⟩ : ∃ zs, IsRow .i64 W a1 len1 cap1 zs ∧ cap1 * 8 ≤ 140737488351232 := by
    obtain ⟨fuel, hf⟩ := h1
    rcases open_ints Try.underlying35 Try.underlying3 (by kernel_rfl) hf with ⟨hcs, _⟩ | ⟨x, l, c, zs, hcs, _, hl, hm, hz, hx, hcell, hwz⟩
    · simp [Value.cells] at hcs
      obtain ⟨rfl, rfl, rfl⟩ := hcs
      exact ⟨[], .inl ⟨rfl, rfl, rfl, rfl⟩, by omega⟩
    · simp [Value.cells] at hcs
      obtain ⟨rfl, rfl, rfl⟩ := hcs
      simp only [Prod.mk.injEq] at hx
      obtain ⟨rfl, rfl⟩ := hx
      simp only [if_true] at hz
      have hm2 := sized_slice hsz (j := 1) (t := 35) (e := 3) rfl rfl Try.underlying35
      rw [show Try.prog.bytesOf 3 = 8 from by kernel_rfl] at hm2
      simp only [lits, List.length_map, List.length_take, List.length_drop, reachBytes] at hm2
      exact ⟨zs, .inr ⟨_, rfl, hl, hm, hz, hcell, hwz⟩, by omega⟩
  clear hA0 hval0
  refine (walk a0 len0 cap0 z0 a1 len1 cap1 z1 W w0 w1).mono fun e W' ⟨he, bel⟩ => ?_
  subst he
  exact ⟨_, rfl, _, _, _, [], _, [], hW', trodAll_mk1 (shut_bool Try.underlying4 _), (trodAll_cons_mk (Below.trod laidOut (by kernel_rfl) (of_decide_eq_true (by kernel_rfl)) k0 bel lt0) (trodAll_cons_mk (Below.trod laidOut (by kernel_rfl) (of_decide_eq_true (by kernel_rfl)) k1 bel lt1) trodAll_mk0)), rfl, bel.frame _, fun h => by cases h⟩

theorem over : Rows.wheelSortedRow.holds Try.pinned (OpenSpec.ofChange Rows.wheelSortedSpec) :=
  OpenClaim.holds_of_wide 5 Try.f5 rfl rfl rfl rfl rfl rfl rfl ⟨rfl, rfl, rfl, rfl, rfl⟩ rfl rfl rfl rfl rfl (by kernel_rfl) Try.func5 (by kernel_rfl)
    (of_decide_eq_true (by kernel_rfl)) (by unfold Func.isWrapper; first | (rw [if_pos (by decide +kernel)]; kernel_rfl) | (rw [if_neg (by decide +kernel)]; exact ⟨rfl, rfl⟩))
    (fun os started H enc _ => lifted os started H enc)

theorem proved : Rows.WheelSortedSaid := over
#print axioms proved
end Go.Proofs.Ytnnblakjaiccfaa.wheelSorted
