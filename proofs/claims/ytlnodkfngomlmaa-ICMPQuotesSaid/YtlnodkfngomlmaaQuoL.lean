/- Proved: what is told of a packet is read as its flow (plain law); the sum of a header laid into it. Conditions: the packet may be written. -/
import Derived.Test.YtlnodkfngomlmaaIpN
import Derived.Test.YtlnodkfngomlmaaFlow
set_option linter.unusedVariables false
set_option linter.unusedSimpArgs false
namespace Go.Proofs.Ytlnodkfngomlmaa
open Go.RowKit
/-- What is told of a packet. -/
def qtB (p : PkV) (ol dl : List Int) : List Int := hdrB p ol dl.length (sumOf (hdrB p ol dl.length 0)) ++ dl.take 8
/-- The header behind its first ten bytes, ahead of its sum. -/
def hdA (p : PkV) (ol : List Int) (dn : Nat) : List Int := be 1 (64 + hdN ol.length / 4 : Nat) ++ be 1 p.svc ++ be 2 (hdN ol.length + dn : Nat) ++ be 2 p.id ++ be 2 (flP p) ++ be 1 p.life ++ be 1 p.proto
def hdZ (p : PkV) (ol : List Int) : List Int := be 4 p.src ++ be 4 p.dst ++ ol ++ List.replicate (hdN ol.length - 20 - ol.length) 0
theorem hdrB_parts (p : PkV) (ol : List Int) (dn : Nat) (s : Int) : hdrB p ol dn s = hdA p ol dn ++ (be 2 s ++ hdZ p ol) := by
  unfold hdrB hdA hdZ; simp only [List.append_assoc]
theorem hdA_len (p : PkV) (ol : List Int) (dn : Nat) : (hdA p ol dn).length = 10 := by unfold hdA; simp [be_length]
theorem hdr_set (p : PkV) (ol : List Int) (dn : Nat) (s : Int) (h0 : 0 ≤ s) (h1 : s ≤ 65535) : ((hdrB p ol dn 0).set 10 (s / 256)).set 11 (s % 256) = hdrB p ol dn s := by
  rw [hdrB_parts, hdrB_parts, List.set_append_right _ _ (by rw [hdA_len]; exact Nat.le_refl _), hdA_len, List.set_append_right _ _ (by rw [hdA_len]; omega), hdA_len]
  congr 1
  rw [be_2, be_1, be_2, be_1, show s / 256 % 256 = s / 256 by omega]
  rfl
theorem hdN_bd {n : Nat} (h : n ≤ 40) : 20 ≤ hdN n ∧ hdN n ≤ 60 ∧ hdN n % 4 = 0 := by unfold hdN; omega
theorem flP_bd (p : PkV) (h0 : 0 ≤ p.off) (h1 : p.off ≤ 65528) : 0 ≤ flP p ∧ flP p ≤ 65535 ∧ flP p % 8192 = p.off / 8 := by
  unfold flP
  cases p.whole <;> cases p.more <;> simp <;> omega
theorem at8_app {l m : List Int} {k : Nat} (h : l.length = k) (i : Nat) : at8 (l ++ m) (k + i) = at8 m i := by
  unfold at8; rw [List.getElem?_append_right (by omega), show k + i - l.length = i by omega]
theorem at8_app0 {l m : List Int} {k : Nat} (h : l.length = k) : at8 (l ++ m) k = at8 m 0 := at8_app h 0
theorem quo_head (p : PkV) (hn : numsP p) (hs : 0 ≤ p.src ∧ p.src ≤ 4294967295) (hd : 0 ≤ p.dst ∧ p.dst ≤ 4294967295) (ol dx : List Int) (dn : Nat) (s : Int) (ho : ol.length ≤ 40) :
    at8 (hdrB p ol dn s ++ dx) 0 = 64 + hdN ol.length / 4 ∧ at8 (hdrB p ol dn s ++ dx) 9 = p.proto ∧ rd2 (hdrB p ol dn s ++ dx) 6 = flP p ∧ rd4 (hdrB p ol dn s ++ dx) 12 = p.src ∧ rd4 (hdrB p ol dn s ++ dx) 16 = p.dst := by
  obtain ⟨n1, n2, n3, n4, n5, n6⟩ := hn
  obtain ⟨h1, h2, h3⟩ := hdN_bd ho
  obtain ⟨f1, f2, f3⟩ := flP_bd p n5.1 n5.2
  obtain ⟨h, hh⟩ : ∃ h, hdN ol.length = h := ⟨_, rfl⟩
  obtain ⟨f, hf⟩ : ∃ f, flP p = f := ⟨_, rfl⟩
  rw [hf] at f1 f2
  rw [hh] at h1 h2 h3
  unfold hdrB rd2 rd4
  rw [hh, hf]
  refine ⟨?_, ?_, ?_, ?_, ?_⟩ <;> simp [at8, be] <;> omega
theorem quo_flow (p : PkV) (hn : numsP p) (hs : 0 ≤ p.src ∧ p.src ≤ 4294967295) (hd : 0 ≤ p.dst ∧ p.dst ≤ 4294967295) (ol dl : List Int) (s : Int) (ho : ol.length ≤ 40) :
    flowF (hdrB p ol dl.length s ++ dl.take 8) = if (p.proto = 6 ∨ p.proto = 17) ∧ p.off = 0 ∧ 4 ≤ dl.length then (0, p.proto, p.src, at8 dl 0 * 256 + at8 dl 1, p.dst, at8 dl 2 * 256 + at8 dl 3) else (0, p.proto, p.src, 0, p.dst, 0) := by
  obtain ⟨e0, e9, e6, e12, e16⟩ := quo_head p hn hs hd ol (dl.take 8) dl.length s ho
  obtain ⟨h1, h2, h3⟩ := hdN_bd ho
  obtain ⟨f1, f2, f3⟩ := flP_bd p hn.2.2.2.2.1.1 hn.2.2.2.2.1.2
  have hl := hdrB_len p ol dl.length s
  have hoff : p.off / 8 = 0 ↔ p.off = 0 := by have := hn.2.2.2.2.2; have := hn.2.2.2.2.1; omega
  have hz : at8 (hdrB p ol dl.length s ++ dl.take 8) 0 % 16 * 4 = hdN ol.length := by rw [e0]; omega
  unfold flowF
  rw [if_neg (by rw [List.length_append, hl]; omega), hz, if_neg (by rw [e0]; omega), if_neg (by rw [List.length_append, hl]; omega), e9, e6, f3, e12, e16]
  have hlen : ((hdN ol.length : Int) + 4 ≤ (hdrB p ol dl.length s ++ dl.take 8).length) ↔ 4 ≤ dl.length := by
    rw [List.length_append, hl, List.length_take]; omega
  have hcond : ((p.proto = 6 ∨ p.proto = 17) ∧ p.off / 8 = 0 ∧ (hdN ol.length : Int) + 4 ≤ (hdrB p ol dl.length s ++ dl.take 8).length) ↔ ((p.proto = 6 ∨ p.proto = 17) ∧ p.off = 0 ∧ 4 ≤ dl.length) := by rw [hoff, hlen]
  by_cases hc : (p.proto = 6 ∨ p.proto = 17) ∧ p.off = 0 ∧ 4 ≤ dl.length
  · rw [if_pos (hcond.2 hc), if_pos hc]
    have ht : (hdN ol.length : Int).toNat = hdN ol.length := Int.toNat_natCast _
    rw [ht]
    have hat : ∀ i, i < 4 → at8 (hdrB p ol dl.length s ++ dl.take 8) (hdN ol.length + i) = at8 dl i := fun i hi => by
      rw [at8_app hl]
      unfold at8
      rw [List.getElem?_take, if_pos (by omega)]
    unfold rd2
    rw [show hdN ol.length + 2 + 1 = hdN ol.length + 3 by omega, hat 1 (by omega), hat 2 (by omega), hat 3 (by omega), show hdN ol.length = hdN ol.length + 0 by omega, hat 0 (by omega)]
  · rw [if_neg (fun h => hc (hcond.1 h)), if_neg hc]
end Go.Proofs.Ytlnodkfngomlmaa
