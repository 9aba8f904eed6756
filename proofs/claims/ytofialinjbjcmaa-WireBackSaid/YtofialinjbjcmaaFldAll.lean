/- The walk of WireBack's all: fields are written, one behind the other. -/
import Derived.Test.YtofialinjbjcmaaFld
namespace Go.Proofs.Ytofialinjbjcmaa
open Go.RowKit
set_option linter.unusedVariables false

theorem Wrote.chain {w0 w1 w2 : World} {p : Nat} {oa oa1 : Option Addr} {s2 : WS} (hc : Chg (fun k => k = p ∨ blk oa = some k) w0 w1) (hb : blk oa1 = blk oa ∨ ∃ k, blk oa1 = some k ∧ w0.heap.size ≤ k) (h2 : Wrote w1 p oa1 s2 w2) : Wrote w0 p oa s2 w2 := by
  obtain ⟨oa2, cap2, h3, h4, h5⟩ := h2
  refine ⟨oa2, cap2, h3, hc.trans h4 (fun i hi e => ?_), ?_⟩
  · rcases e with e | e
    · exact .inl e
    · rcases hb with h | ⟨k, h, h'⟩
      · exact .inr (by rw [← h]; exact e)
      · rw [h] at e; cases e; omega
  · rcases h5 with h | ⟨k, h, h'⟩
    · rw [h]; exact hb
    · exact .inr ⟨k, h, Nat.le_trans hc.size h'⟩
theorem ws_next {s : WS} {os : List Op2} {k : Nat} {o : Op2} (h0 : s.err = 0) (hroom : s.bs.length + (encs os).length ≤ s.most) (ho : os[k]? = some o) :
    ({ s with bs := s.bs ++ encs (os.take k) } : WS).add o.enc = { s with bs := s.bs ++ encs (os.take (k + 1)) } := by
  have h1 := encs_le os (k + 1)
  rw [encs_snoc ho, List.length_append] at h1
  simp only [WS.add, h0]
  rw [if_neg (by simp), if_neg (by simp only [List.length_append]; omega), encs_snoc ho, List.append_assoc]

def RelAll (w0 : World) (p : Nat) (oa : Option Addr) (s : WS) (os : List Op2) (i : Value) (wr : World) : Prop :=
  ∃ k : Nat, k ≤ os.length ∧ i = .int .i64 k ∧ Wrote w0 p oa { s with bs := s.bs ++ encs (os.take k) } wr

set_option maxHeartbeats 4000000 in
theorem all_any (p : Nat) (oa : Option Addr) (cap : Nat) (s : WS) (a : Option Addr) (ca B : Nat) (os : List Op2) (hol : os.length ≤ 1000000) (he : s.err = 0) (hroom : s.bs.length + (encs os).length ≤ s.most) (hsh : ∀ o ∈ os, o.sh = true → o.bs.length ≤ 255) (w : World) (h : IsW w p oa cap s) (hB : B ≤ w.heap.size) (hp : B ≤ p) (hoa : ∀ k, blk oa = some k → B ≤ k) (ho : OpsAt B w a os) :
    Calls Try.prog 23 #[.pointer (some ⟨p, 0, none⟩), .slice a os.length ca] w fun r w' => r = .returned (.tuple #[]) ∧ Wrote w p oa { s with bs := s.bs ++ encs os } w' := by
  obtain ⟨len, hlen⟩ : ∃ len, os.length = len := ⟨_, rfl⟩
  rw [hlen]
  have Hlen := Lib.hid hlen
  have hll : len ≤ 1000000 := by omega
  have Hs := Lib.hid h
  have Ho := Lib.hid ho
  have Hsh := Lib.hid hsh
  have Hroom := Lib.hid hroom
  have He := Lib.hid he
  clear hlen hol he hroom hsh h ho
  go_enter Try.func23, Try.ntmps23
  go_wp2_with fail
  go_loopw [4] (fun i wr => RelAll w p oa s os i wr) (fun i _ => len - (intOf i).toNat)
  case atStart => exact ⟨0, Nat.zero_le _, rfl, by simpa [encs] using Wrote.same Hs.out⟩
  case round =>
    obtain ⟨j, hj, rfl, hW⟩ := hrel
    rw [Hlen.out] at hj
    obtain ⟨oa1, cap1, hW1, hC1, hb1⟩ := hW
    by_cases hlt : j < len
    · obtain ⟨o, hoj⟩ : ∃ o, os[j]? = some o := ⟨_, List.getElem?_eq_getElem (by rw [Hlen.out]; exact hlt)⟩
      have hBw : Below B w wr := hC1.below hB (fun k e => e.elim (fun e => by omega) (hoa k))
      obtain ⟨b, off, rfl, hb, hf, ⟨l0, l1, l2, l3⟩, hbt, hba⟩ := (Ho.out.below hBw).at hoj
      have Hnx := Lib.hid (ws_next He.out Hroom.out hoj)
      have Hsh1 := Lib.hid (Hsh.out o (List.mem_of_getElem? hoj))
      have HB1 := Lib.hid (o.box_below wr)
      have Hbt := Lib.hid (hbt.below (o.box_below wr))
      have HW1 := Lib.hid (hW1.below (o.box_below wr))
      have Hba := Lib.hid (show o.bs = [] ∨ ∀ k, blk o.a = some k → k ≠ p ∧ blk oa1 ≠ some k from hba.elim .inl fun h => .inr fun k hk => ⟨by have := h k hk; omega, fun e => by
        have h1 := h k hk
        rcases hb1 with h2 | ⟨k2, h2, h3⟩
        · rw [h2] at e; have := hoa k e; omega
        · rw [h2] at e; cases e; omega⟩)
      have HC1 := Lib.hid hC1
      have Hb1 := Lib.hid hb1
      clear hoj hbt hba hW1 hC1 hb1 hBw
      obtain ⟨kind, ko, n, ao, co, bs⟩ := o
      obtain ⟨hn, hk, hbl, hkd, hnil⟩ := hf
      simp only [Op2.box] at *
      have fin : ∀ w3, Wrote (wr.alloc (.cells #[.int .i64 kind, .int .u64 n, .slice ao bs.length co, .int .i64 ko] 36)) p oa1 (({ s with bs := s.bs ++ encs (os.take j) } : WS).add (Op2.enc ⟨kind, ko, n, ao, co, bs⟩)) w3 → RelAll w p oa s os (.int .i64 ((j + 1 : Nat) : Int)) w3 := fun w3 h3 => ⟨j + 1, by rw [Hlen.out]; omega, rfl, by rw [← Hnx.out]; exact Wrote.chain HC1.out Hb1.out (Wrote.below HB1.out h3)⟩
      have Fin := Lib.hid fin
      clear fin
      generalize ({ s with bs := s.bs ++ encs (os.take j) } : WS) = cur at HW1 Fin
      by_cases k1 : kind = 1
      · subst k1
        have H := put_uint8 p oa1 cap1 cur (n % 256) (by omega) _ HW1.out
        rw [leb_mod 1 n, show leb 1 n = Op2.enc ⟨1, ko, n, ao, co, bs⟩ by simp [Op2.enc], show ((n % 256 : Nat) : Int) = (n : Int) % 256 by omega] at H
        have H := Lib.hid H
        clear hbl hk hkd hnil hn
        go_wp2_with fail
        refine H.out.mono ?_
        rintro _ w3 ⟨rfl, h3⟩
        have h4 := Fin.out w3 h3
        clear h3
        go_wp2_with fail
        go_roundw
        case rel => exact h4
        case measure => simp [intOf]; omega
      by_cases k2 : kind = 2
      · subst k2
        have H := put_uint16 p oa1 cap1 cur (n % 65536) (by omega) _ HW1.out
        rw [leb_mod 2 n, show leb 2 n = Op2.enc ⟨2, ko, n, ao, co, bs⟩ by simp [Op2.enc], show ((n % 65536 : Nat) : Int) = (n : Int) % 65536 by omega] at H
        have H := Lib.hid H
        clear hbl hk hkd hnil hn k1
        go_wp2_with fail
        refine H.out.mono ?_
        rintro _ w3 ⟨rfl, h3⟩
        have h4 := Fin.out w3 h3
        clear h3
        go_wp2_with fail
        go_roundw
        case rel => exact h4
        case measure => simp [intOf]; omega
      by_cases k4 : kind = 4
      · subst k4
        have H := put_uint32 p oa1 cap1 cur (n % 4294967296) (by omega) _ HW1.out
        rw [leb_mod 4 n, show leb 4 n = Op2.enc ⟨4, ko, n, ao, co, bs⟩ by simp [Op2.enc], show ((n % 4294967296 : Nat) : Int) = (n : Int) % 4294967296 by omega] at H
        have H := Lib.hid H
        clear hbl hk hkd hnil hn k1 k2
        go_wp2_with fail
        refine H.out.mono ?_
        rintro _ w3 ⟨rfl, h3⟩
        have h4 := Fin.out w3 h3
        clear h3
        go_wp2_with fail
        go_roundw
        case rel => exact h4
        case measure => simp [intOf]; omega
      by_cases k8 : kind = 8
      · subst k8
        have H := put_uint64 p oa1 cap1 cur n hn _ HW1.out
        rw [show leb 8 n = Op2.enc ⟨8, ko, n, ao, co, bs⟩ by simp [Op2.enc]] at H
        have H := Lib.hid H
        clear hbl hk hkd hnil hn k1 k2 k4
        go_wp2_with fail
        refine H.out.mono ?_
        rintro _ w3 ⟨rfl, h3⟩
        have h4 := Fin.out w3 h3
        clear h3
        go_wp2_with fail
        go_roundw
        case rel => exact h4
        case measure => simp [intOf]; omega
      by_cases k0 : kind = 0
      · subst k0
        have H := raw_any p oa1 cap1 cur ao co bs (by omega) _ HW1.out Hbt.out hnil Hba.out
        rw [show cur.add bs = cur.add (Op2.enc ⟨0, ko, n, ao, co, bs⟩) by simp [Op2.enc]] at H
        have H := Lib.hid H
        clear hbl hk hkd hnil hn k1 k2 k4 k8
        go_wp2_with fail
        refine H.out.mono ?_
        rintro _ w3 ⟨rfl, h3⟩
        have h4 := Fin.out w3 h3
        clear h3
        go_wp2_with fail
        go_roundw
        case rel => exact h4
        case measure => simp [intOf]; omega
      have hsh : bs.length ≤ 255 := Hsh1.out (by simp [Op2.sh, k0, k1, k2, k4, k8])
      have H := short_any p oa1 cap1 cur ao co bs (by omega) _ HW1.out Hbt.out hnil Hba.out
      rw [show cur.short bs = cur.add (Op2.enc ⟨kind, ko, n, ao, co, bs⟩) by simp [Op2.enc, WS.short, k0, k1, k2, k4, k8]; omega] at H
      have H := Lib.hid H
      have e0 := beq_no k0
      have e1 := beq_no k1
      have e2 := beq_no k2
      have e4 := beq_no k4
      have e8 := beq_no k8
      clear hbl hk hkd hnil hn k1 k2 k4 k8 k0 hsh
      go_wp2_with fail
      refine H.out.mono ?_
      rintro _ w3 ⟨rfl, h3⟩
      have h4 := Fin.out w3 h3
      clear h3
      go_wp2_with fail
      go_roundw
      case rel => exact h4
      case measure => simp [intOf]; omega
    · have hke : os.take j = os := List.take_of_length_le (by rw [Hlen.out]; omega)
      have HF : Wrote w p oa { s with bs := s.bs ++ encs os } wr := by rw [← hke]; exact ⟨oa1, cap1, hW1, hC1, hb1⟩
      have HF := Lib.hid HF
      clear hke hW1 hC1 hb1
      go_wp2_with fail
      go_end0
      exact ⟨rfl, HF.out⟩
end Go.Proofs.Ytofialinjbjcmaa
