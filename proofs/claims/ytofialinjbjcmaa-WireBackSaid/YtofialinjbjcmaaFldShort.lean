/- The walk of WireBack's short: of the first bytes alone. -/
import Derived.Test.YtofialinjbjcmaaFldNo
namespace Go.Proofs.Ytofialinjbjcmaa
open Go.RowKit
set_option linter.unusedVariables false

/-- the reader, when k fields were asked for: all lay within the bytes; or one did not -/
def ShortS (xs : List UInt8) (os : List Op2) (k : Nat) (lk : Bool) (s : RS) : Prop :=
  (lk = false ∧ s = ⟨xs.drop (encs (os.take k)).length, 0⟩ ∧ (encs (os.take k)).length ≤ xs.length) ∨ (lk = true ∧ s.err = 2 ∧ xs.length < (encs (os.take k)).length)
theorem encs_drop (os : List Op2) (k : Nat) : (encs os).drop (encs (os.take k)).length = encs (os.drop k) := by
  rw [← encs_cut os k, List.drop_left' rfl]
theorem short_rest {xs : List UInt8} {os : List Op2} {k : Nat} {o : Op2} (hx : xs = (encs os).take xs.length) (ho : os[k]? = some o) :
    xs.drop (encs (os.take k)).length = (o.enc ++ encs (os.drop (k + 1))).take (xs.length - (encs (os.take k)).length) := by
  conv => lhs; rw [hx]
  rw [List.drop_take, encs_drop, encs_split ho]
theorem short_lacks {xs : List UInt8} {os : List Op2} {k : Nat} {o : Op2} (hx : xs = (encs os).take xs.length) (ho : os[k]? = some o) (h1 : (encs (os.take k)).length ≤ xs.length) (h2 : xs.length < (encs (os.take k)).length + o.enc.length) :
    (⟨xs.drop (encs (os.take k)).length, 0⟩ : RS).lacks o.enc := by
  refine .inr ⟨rfl, ?_, ?_⟩
  · show xs.drop _ <+: _
    rw [short_rest hx ho, List.take_append_of_le_length (by omega)]
    exact List.take_prefix _ _
  · show (xs.drop _).length < _
    rw [List.length_drop]; omega
theorem short_back_rest {xs : List UInt8} {os : List Op2} {k : Nat} {o : Op2} (hx : xs = (encs os).take xs.length) (ho : os[k]? = some o) (h2 : (encs (os.take k)).length + o.enc.length ≤ xs.length) :
    xs.drop (encs (os.take k)).length = o.enc ++ xs.drop (encs (os.take (k + 1))).length := by
  have e : (xs.drop (encs (os.take k)).length).take o.enc.length = o.enc := by
    rw [short_rest hx ho, List.take_take, Nat.min_eq_left (by omega), List.take_left' rfl]
  have h3 := List.take_append_drop o.enc.length (xs.drop (encs (os.take k)).length)
  rw [e, List.drop_drop] at h3
  rw [encs_snoc ho, List.length_append]
  exact h3.symm

def RelShort (w0 : World) (p : Nat) (a : Option Addr) (xs : List UInt8) (os : List Op2) (at' lk i : Value) (wr : World) : Prop :=
  ∃ (k : Nat) (b : Bool) (s : RS) (a' : Option Addr) (c' : Nat), k ≤ os.length ∧ i = .int .i64 k ∧ lk = .bool b ∧ at' = .int .i64 ((encs (os.take k)).length : Nat) ∧ ShortS xs os k b s ∧ IsR wr p a' c' s ∧ blk a' = blk a ∧ Below w0.heap.size w0 wr
theorem relShort_next {w0 wr w1 : World} {p : Nat} {a a1 : Option Addr} {xs : List UInt8} {os : List Op2} {k : Nat} {b : Bool} {s : RS} {m : Nat} (hm : (encs (os.take (k + 1))).length = m) (hk : k < os.length) (h1 : ShortS xs os (k + 1) b s) (h2 : Aft wr p a1 s w1) (h3 : blk a1 = blk a) (h4 : Below w0.heap.size w0 wr) (hp : w0.heap.size ≤ p) {t i : Value} (ht : t = .int .i64 (m : Nat)) (hi : i = .int .i64 ((k + 1 : Nat) : Int)) : RelShort w0 p a xs os t (.bool b) i w1 := by
  subst ht; subst hi
  obtain ⟨a', c', g1, g2, g3⟩ := h2
  exact ⟨k + 1, b, s, a', c', hk, rfl, rfl, by rw [hm], h1, g1, g2.trans h3, h4.trans (g3.below h4.size fun k e => by omega)⟩
theorem err2_any (p : Nat) (a : Option Addr) (cap : Nat) (s : RS) (e : Nat) (he : s.err = e) (w : World) (h : IsR w p a cap s) :
    Calls Try.prog 57 #[.pointer (some ⟨p, 0, none⟩)] w fun x w' => x = .returned (.int .i64 (e : Int)) ∧ w = w' := by
  subst he; exact err_any p a cap s w h

set_option maxHeartbeats 4000000 in
theorem short_all (xs : List UInt8) (os : List Op2) (B : Nat) (b a : Option Addr) (cb ca : Nat) (hol : os.length ≤ 1000000) (hen : (encs os).length ≤ 1000000000000000000) (hxl : xs.length ≤ 140737488355328) (hx : xs = (encs os).take xs.length) (hsh : ∀ o ∈ os, o.sh = true → o.bs.length ≤ 255) (w : World) (hB : B ≤ w.heap.size) (hb : Bts w b xs) (hbn : b = none → cb = 0) (ho : OpsAt B w a os) :
    Calls Try.prog 31 #[.slice b xs.length cb, .slice a os.length ca] w fun r w' => r = .returned (.bool true) ∧ Below w.heap.size w w' := by
  obtain ⟨len, hlen⟩ : ∃ len, os.length = len := ⟨_, rfl⟩
  obtain ⟨n, hxn⟩ : ∃ n, xs.length = n := ⟨_, rfl⟩
  have HN := newReader_any b cb xs w hb hbn hxl
  rw [hlen]
  rw [hxn] at HN ⊢
  have HN := Lib.hid HN
  have Hlen := Lib.hid hlen
  have Hxn := Lib.hid hxn
  have hll : len ≤ 1000000 := by omega
  have hnl : n ≤ 140737488355328 := by omega
  have Hx := Lib.hid hx
  have Hen := Lib.hid hen
  have Ho := Lib.hid ho
  have Hsh := Lib.hid hsh
  clear hlen hol hxl hx hsh hb hbn ho hxn hen
  go_enter Try.func31, Try.ntmps31
  go_wp2_with fail
  refine HN.out.mono ?_
  rintro _ w1 ⟨p, a1, c1, rfl, hR, hp, hba, hB1⟩
  have HR := Lib.hid hR
  have HB1 := Lib.hid hB1
  clear hR hB1
  go_wp2_with fail
  go_loopw [6, 7, 8] (fun t l i wr => RelShort w p a1 xs os t l i wr) (fun _ _ i _ => len - (intOf i).toNat)
  case atStart => exact ⟨0, false, ⟨xs, 0⟩, a1, c1, Nat.zero_le _, rfl, rfl, by simp [encs], .inl ⟨rfl, by simp [encs], by simp [encs]⟩, HR.out, rfl, HB1.out⟩
  case round =>
    obtain ⟨k, lk, s, a2, c2, hk, rfl, rfl, rfl, hS, hR2, ha2, hB2⟩ := hrel
    rw [Hlen.out] at hk
    by_cases hlt : k < len
    · obtain ⟨o, hoj⟩ : ∃ o, os[k]? = some o := ⟨_, List.getElem?_eq_getElem (by rw [Hlen.out]; exact hlt)⟩
      obtain ⟨bb, off, rfl, hbb, hf, ⟨l0, l1, l2, l3⟩, hbt, hbl⟩ := (Ho.out.below (hB2.mono hB)).at hoj
      have hm1 : (encs (os.take (k + 1))).length = (encs (os.take k)).length + o.enc.length := by rw [encs_snoc hoj, List.length_append]
      have hle := encs_le os (k + 1)
      have hle2 := Hen.out
      have hsh1 := Hsh.out o (List.mem_of_getElem? hoj)
      have hSz := size_any o hf.2.2.1 wr
      rw [show o.size = o.enc.length from rfl] at hSz
      have hba2 : o.bs = [] ∨ ∀ k, blk o.a = some k → k ≠ p := hbl.imp id fun h k hk => by have := h k hk; omega
      have HSz := Lib.hid hSz
      have HL := Lib.hid fun (w' : World) (h : Below wr.heap.size wr w') => (OpAt.below ⟨hf, ⟨l0, l1, l2, l3⟩, hbt, hbl⟩ hbb (h.mono (Nat.le_trans hB hB2.size))).2.1
      clear hSz
      rcases hS with ⟨rfl, rfl, hS⟩ | ⟨rfl, he, hS⟩
      · have he : True := trivial
        by_cases hmm : (encs (os.take k)).length + o.enc.length ≤ n
        · -- within the bytes
          have HBk := Lib.hid fun (w1 : World) (hb1 : Below wr.heap.size wr w1) => back_any p a2 c2 _ o (xs.drop (encs (os.take (k + 1))).length) hsh1 w1 (hR2.below hb1) rfl (short_back_rest Hx.out hoj (by rw [Hxn.out]; exact hmm)) hf (hbt.below hb1) hba2
          have HE := Lib.hid fun (w1 : World) (a' : Option Addr) (c' : Nat) (h : IsR w1 p a' c' ⟨xs.drop (encs (os.take (k + 1))).length, 0⟩) => err2_any p a' c' _ 0 rfl w1 h
          have HF := Lib.hid fun (wr2 w1 : World) (t i : Value) (hb1 : Below wr.heap.size wr wr2) (h : Aft wr2 p a2 ⟨xs.drop (encs (os.take (k + 1))).length, 0⟩ w1) => relShort_next (xs := xs) (b := false) (t := t) (i := i) hm1 (by rw [Hlen.out]; exact hlt) (.inl ⟨rfl, rfl, by rw [hm1, Hxn.out]; exact hmm⟩) h ha2 (hB2.trans (hb1.mono hB2.size)) hp
          simp only [Op2.val] at HBk HSz
          have hle' : (encs (os.take k)).length + o.enc.length ≤ 1000000000000000000 := by omega
          generalize o.enc.length = ol at *
          generalize (encs (os.take k)).length = m at *
          clear hR2 hoj hsh1 hf hbt hbl hba2 HN HR HB1 hB2 hS hm1 hle hle2 he
          have hd : decide ((n : Int) < (m : Int) + (ol : Int)) = false := decide_eq_false (by omega)
          go_wp2_with fail
          refine HSz.out.mono ?_
          rintro _ w2 ⟨rfl, hB3⟩
          clear l0 l1 l2 l3
          obtain ⟨l0, l1, l2, l3⟩ := HL.out w2 hB3
          go_wp2_with fail
          refine (HBk.out w2 hB3).mono ?_
          rintro _ w3 ⟨rfl, hA⟩
          have hA2 := hA
          obtain ⟨a3, c3, hR3, _, _⟩ := hA2
          have hA := Lib.hid hA
          go_wp2_with fail
          refine (HE.out w3 a3 c3 hR3).mono ?_
          rintro _ _ ⟨rfl, rfl⟩
          go_wp2_with fail
          go_roundw
          case rel => exact HF.out w2 _ _ _ hB3 hA.out (by go_num) (by go_num)
          case measure => simp [intOf]; omega
        · -- the first one that lacks a byte
          have HBk := Lib.hid fun (w1 : World) (hb1 : Below wr.heap.size wr w1) => nothing_any p a2 c2 _ o hsh1 w1 (hR2.below hb1) (short_lacks Hx.out hoj hS (by rw [Hxn.out]; omega))
          have HE := Lib.hid fun (w1 : World) (a' : Option Addr) (c' : Nat) (h : IsR w1 p a' c' ⟨xs.drop (encs (os.take k)).length, 2⟩) => err2_any p a' c' _ 2 rfl w1 h
          have HF := Lib.hid fun (wr2 w1 : World) (t i : Value) (hb1 : Below wr.heap.size wr wr2) (h : Aft wr2 p a2 ⟨xs.drop (encs (os.take k)).length, 2⟩ w1) => relShort_next (xs := xs) (b := true) (t := t) (i := i) hm1 (by rw [Hlen.out]; exact hlt) (.inr ⟨rfl, rfl, by rw [hm1, Hxn.out]; omega⟩) h ha2 (hB2.trans (hb1.mono hB2.size)) hp
          simp only [Op2.val] at HBk HSz
          have hle' : (encs (os.take k)).length + o.enc.length ≤ 1000000000000000000 := by omega
          generalize o.enc.length = ol at *
          generalize (encs (os.take k)).length = m at *
          clear hR2 hoj hsh1 hf hbt hbl hba2 HN HR HB1 hB2 hS hm1 hle hle2 he
          go_wp2_with fail
          refine HSz.out.mono ?_
          rintro _ w2 ⟨rfl, hB3⟩
          clear l0 l1 l2 l3
          obtain ⟨l0, l1, l2, l3⟩ := HL.out w2 hB3
          go_wp2_with fail
          refine (HBk.out w2 hB3).mono ?_
          rintro _ w3 ⟨rfl, hA⟩
          have hA2 := hA
          obtain ⟨a3, c3, hR3, _, _⟩ := hA2
          have hA := Lib.hid hA
          go_wp2_with fail
          refine (HE.out w3 a3 c3 hR3).mono ?_
          rintro _ _ ⟨rfl, rfl⟩
          go_wp2_with fail
          go_roundw
          case rel => exact HF.out w2 _ _ _ hB3 hA.out (by go_num) (by go_num)
          case measure => simp [intOf]; omega
      · -- one behind it
        have HBk := Lib.hid fun (w1 : World) (hb1 : Below wr.heap.size wr w1) => nothing_any p a2 c2 s o hsh1 w1 (hR2.below hb1) (.inl he)
        have HE := Lib.hid fun (w1 : World) (a' : Option Addr) (c' : Nat) (h : IsR w1 p a' c' { s with err := 2 }) => err2_any p a' c' _ 2 rfl w1 h
        have HF := Lib.hid fun (wr2 w1 : World) (t i : Value) (hb1 : Below wr.heap.size wr wr2) (h : Aft wr2 p a2 { s with err := 2 } w1) => relShort_next (xs := xs) (b := true) (t := t) (i := i) hm1 (by rw [Hlen.out]; exact hlt) (.inr ⟨rfl, rfl, by rw [hm1, Hxn.out]; rw [Hxn.out] at hS; omega⟩) h ha2 (hB2.trans (hb1.mono hB2.size)) hp
        simp only [Op2.val] at HBk HSz
        have hle' : (encs (os.take k)).length + o.enc.length ≤ 1000000000000000000 := by omega
        generalize o.enc.length = ol at *
        generalize (encs (os.take k)).length = m at *
        clear hR2 hoj hsh1 hf hbt hbl hba2 HN HR HB1 hB2 hS hm1 hle hle2 he
        go_wp2_with fail
        refine HSz.out.mono ?_
        rintro _ w2 ⟨rfl, hB3⟩
        clear l0 l1 l2 l3
        obtain ⟨l0, l1, l2, l3⟩ := HL.out w2 hB3
        go_wp2_with fail
        refine (HBk.out w2 hB3).mono ?_
        rintro _ w3 ⟨rfl, hA⟩
        have hA2 := hA
        obtain ⟨a3, c3, hR3, _, _⟩ := hA2
        have hA := Lib.hid hA
        go_wp2_with fail
        refine (HE.out w3 a3 c3 hR3).mono ?_
        rintro _ _ ⟨rfl, rfl⟩
        go_wp2_with fail
        go_roundw
        case rel => exact HF.out w2 _ _ _ hB3 hA.out (by go_num) (by go_num)
        case measure => simp [intOf]; omega
    · have hke : os.take k = os := List.take_of_length_le (by rw [Hlen.out]; omega)
      unfold ShortS at hS
      rw [hke] at hS ⊢
      have hB2 := Lib.hid hB2
      rcases hS with ⟨rfl, rfl, hS⟩ | ⟨rfl, he, hS⟩
      · have hnil : xs.drop (encs os).length = [] := List.drop_eq_nil_of_le (by rw [Hx.out]; exact List.length_take_le' _ _)
        rw [hnil] at hR2
        have HE := Lib.hid (end_any p a2 c2 _ wr hR2)
        rw [show RS.ending ⟨[], 0⟩ = 0 by simp [RS.ending]] at HE
        clear hR2 hS hke hnil
        generalize (encs os).length = m at *
        go_wp2_with fail
        refine HE.out.mono ?_
        rintro _ _ ⟨rfl, rfl⟩
        go_wp2_with fail
        go_ret
        exact ⟨rfl, hB2.out⟩
      · have HE := end_any p a2 c2 _ wr hR2
        rw [show RS.ending s = 2 by simp [RS.ending, he]] at HE
        have HE := Lib.hid HE
        clear hR2 hS hke he
        generalize (encs os).length = m at *
        go_wp2_with fail
        refine HE.out.mono ?_
        rintro _ _ ⟨rfl, rfl⟩
        go_wp2_with fail
        go_ret
        exact ⟨rfl, hB2.out⟩
end Go.Proofs.Ytofialinjbjcmaa
