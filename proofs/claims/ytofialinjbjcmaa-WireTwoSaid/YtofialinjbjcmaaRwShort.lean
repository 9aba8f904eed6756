/- The document's writer: Short, Fill. -/
import Derived.Test.YtofialinjbjcmaaRwOps
namespace Go.Proofs.Ytofialinjbjcmaa
open Go.RowKit
set_option linter.unusedVariables false

def RelSh (w0 : World) (b0 : UInt8) (xs : List UInt8) (o i : Value) (wr : World) : Prop :=
  ∃ (k : Nat) (oa : Option Addr) (cap : Nat), k ≤ xs.length ∧ i = .int .i64 k ∧ o = .slice oa (k + 1) cap ∧ OB wr oa cap (b0 :: xs.take k) ∧ (∀ j, blk oa = some j → w0.heap.size ≤ j) ∧ Below w0.heap.size w0 wr
theorem relSh_next {w0 wr w1 : World} {xs : List UInt8} {k : Nat} {oa oa2 : Option Addr} {cap2 : Nat} {b0 b : UInt8} (hk : k < xs.length) (hb : xs.getD k 0 = b) (hoa : ∀ j, blk oa = some j → w0.heap.size ≤ j) (hB : Below w0.heap.size w0 wr) {o : Obj}
    (hO : OB w1 oa2 cap2 (b0 :: xs.take k ++ [b])) (hC : Chg (fun j => blk oa = some j) (wr.alloc o) w1) (hb2 : blk oa2 = blk oa ∨ blk oa2 = some (wr.alloc o).heap.size) {i : Value} (hi : i = .int .i64 ((k + 1 : Nat) : Int)) : RelSh w0 b0 xs (.slice oa2 (k + 1 + 1) cap2) i w1 := by
  subst hi
  have hB2 := hB.alloc hB.size o
  refine ⟨k + 1, oa2, cap2, hk, rfl, rfl, by rw [take_snoc hk, hb]; exact hO, fun j hj => ?_, hB2.trans (hC.below hB2.size hoa)⟩
  rcases hb2 with h | h
  · exact hoa j (by rw [← h]; exact hj)
  · rw [h] at hj; cases hj; exact hB2.size
theorem Wrote.from_err {w : World} {p : Nat} {oa : Option Addr} {s s' : WS} {w2 : World} {v : Value} (h : Wrote (w.setCell ⟨p, 2, none⟩ v) p oa s' w2) (hz : p < w.heap.size) : Wrote w p oa s' w2 := by
  obtain ⟨oa', cap', h1, h2, h3⟩ := h
  have e : (w.setCell ⟨p, 2, none⟩ v).heap.size = w.heap.size := by simp [World.setCell]
  refine ⟨oa', cap', h1, ((Chg.refl _ w).setCell _ _ fun _ => .inl rfl).trans h2 fun _ _ g => g, ?_⟩
  rcases h3 with h3 | ⟨k, h3, h4⟩
  · exact .inl h3
  · exact .inr ⟨k, h3, by rw [e] at h4; exact h4⟩

set_option maxHeartbeats 2000000 in
theorem rwShort_any (p : Nat) (oa : Option Addr) (cap : Nat) (s : WS) (a : Option Addr) (c : Nat) (xs : List UInt8) (hl : xs.length ≤ 140737488351232) (w : World) (h : IsW w p oa cap s) (hx : Bts w a xs) (ha : xs = [] ∨ ∀ k, blk a = some k → k ≠ p ∧ blk oa ≠ some k) :
    Calls Try.prog 41 #[.pointer (some ⟨p, 0, none⟩), .slice a xs.length c] w fun r w' => r = .returned (.tuple #[]) ∧ Wrote w p oa (s.short xs) w' := by
  obtain ⟨n, hxn⟩ : ∃ n, xs.length = n := ⟨_, rfl⟩
  have hlb : (((UInt8.ofNat n).toNat : Nat) : Int) = (n : Int) % 256 := by rw [UInt8.toNat_ofNat']; omega
  have hp := h.lt
  have hblk := h.2.1.lt
  have Hh := Lib.hid h
  have Hx := Lib.hid hx
  obtain ⟨⟨T, h3⟩, h4, h5, h6, h7, h8⟩ := h
  obtain ⟨c0, c1, c2, f⟩ := cells3 h3
  have f2 := f 2
  rw [hxn] at hl ⊢
  have Hxn := Lib.hid hxn
  clear h3 h4 h5 h6 h7 h8 f hxn hx
  by_cases he : s.err = 0
  · have e1 : ((s.err : Int) == 0) = true := by rw [beq_iff_eq]; omega
    by_cases h255 : 255 < n
    · have hd : decide ((255 : Int) < (n : Int)) = true := decide_eq_true (by omega)
      have HF := Lib.hid (show s.short xs = ({ s with err := 3 } : WS).add (UInt8.ofNat n :: xs) by simp [WS.short, WS.fail, WS.add, he, h255, Hxn.out])
      have hI : IsW (w.setCell ⟨p, 2, none⟩ (.int .i64 3)) p oa cap { s with err := 3 } := by
        obtain ⟨⟨T, h3⟩, h4, h5, h6, h7, h8⟩ := Hh.out
        exact ⟨⟨T, set3_2 h3 _⟩, h4.chg (Chg.set w ⟨p, 2, none⟩ _) (fun k hk e => h5 (by rw [hk]; exact congrArg some e)), h5, h6, h7, by show 3 ≤ 1000; decide⟩
      have hX2 : Bts (w.setCell ⟨p, 2, none⟩ (.int .i64 3)) a xs := ha.elim .inl fun g => Hx.out.chg (Chg.set w ⟨p, 2, none⟩ _) fun k hk e => (g k hk).1 e
      clear ha he h255
      have HO0 := OB.made (w.setCell ⟨p, 2, none⟩ (.int .i64 3)) [UInt8.ofNat n] (by show 1 ≤ maxLen; decide)
      rw [show (cellsB [UInt8.ofNat n]).toArray = #[.int .u8 ((n : Int) % 256)] by simp only [cellsB, List.map_cons, List.map_nil, hlb]] at HO0
      try rw [show (w.setCell ⟨p, 2, none⟩ (.int .i64 3)).heap.size = w.heap.size by simp [World.setCell]] at HO0
      have HO0 := Lib.hid HO0
      have HX := Lib.hid hX2
      have HI := Lib.hid hI
      clear hlb
      go_enter Try.func41, Try.ntmps41
      go_wp2_with fail
      go_loopw [4, 5] (fun o i wr => RelSh (w.setCell ⟨p, 2, none⟩ (.int .i64 3)) (UInt8.ofNat n) xs o i wr) (fun _ i _ => n - (intOf i).toNat)
      case atStart => exact ⟨0, _, 1, Nat.zero_le _, rfl, rfl, HO0.out, fun j hj => by cases hj; first | exact Nat.le_refl _ | simp [World.setCell], (Below.refl _ _).alloc (Nat.le_refl _) _⟩
      case round =>
        clear c0 c1 c2 f2
        obtain ⟨k, oa1, cap1, hk, rfl, rfl, hO, hoa, hB⟩ := hrel
        rw [Hxn.out] at hk
        by_cases hlt : k < n
        · obtain ⟨b1, o1, rfl, -, hc⟩ := (HX.out.below hB).at (k := k) (by rw [Hxn.out]; exact hlt)
          obtain ⟨b, eb⟩ : ∃ b, xs.getD k 0 = b := ⟨_, rfl⟩
          rw [eb] at hc
          have HN := Lib.hid fun (w1 : World) (oa2 : Option Addr) (cap2 : Nat) (o : Obj) (i : Value) => relSh_next (w1 := w1) (oa2 := oa2) (cap2 := cap2) (o := o) (b0 := UInt8.ofNat n) (i := i) (by rw [Hxn.out]; exact hlt) eb hoa hB
          have Hk := Lib.hid (show k + 1 = (UInt8.ofNat n :: xs.take k).length by rw [List.length_cons, List.length_take, Hxn.out]; omega)
          have hO2 := hO.below ((Below.refl _ _).alloc (Nat.le_refl _) (.cells #[.int .u8 (b.toNat : Int)] 5))
          have hx := one_new wr b
          clear hO hoa hB eb
          go_wp2_with (at_builtin; refine wpList_append_bytes rfl (.tmp 29) (.tmp 34) rfl (m := 1) (xs := [b]) Hk.out rfl hO2 rfl rfl hx (fun e => by cases e) (by omega) ?_
                       intro oa2 cap2 w2 hO3 hC2 hb2 _)
          go_roundw
          case rel => exact HN.out _ _ _ _ _ hO3 hC2 hb2 (by go_num)
          case measure => simp [intOf]; omega
        · have hke : xs.take k = xs := List.take_of_length_le (by rw [Hxn.out]; omega)
          rw [hke] at hO
          obtain rfl : k = n := by omega
          have H := rput_any p oa cap { s with err := 3 } oa1 cap1 (UInt8.ofNat k :: xs) (by rw [List.length_cons, Hxn.out]; omega) wr (HI.out.below hB) hO.bts (.inr fun j hj => ⟨by have h := hoa j hj; first | omega | (simp [World.setCell] at h; omega), fun e => by have h := hoa j hj; have := hblk _ e; first | omega | (simp [World.setCell] at h; omega)⟩)
          rw [List.length_cons, Hxn.out] at H
          have H := Lib.hid H
          have HB := Lib.hid hB
          clear hO hoa hB hke
          go_wp2_with fail
          refine H.out.mono ?_
          rintro _ w2 ⟨rfl, h2⟩
          have h2 := Wrote.below HB.out h2
          go_wp2_with fail
          go_end0
          exact ⟨rfl, by rw [HF.out]; exact Wrote.from_err (s := s) h2 hp⟩
    · have hd : decide ((255 : Int) < (n : Int)) = false := decide_eq_false (by omega)
      have HF := Lib.hid (show s.short xs = s.add (UInt8.ofNat n :: xs) by simp [WS.short, Hxn.out, h255])
      clear ha he h255
      have HO0 := OB.made w [UInt8.ofNat n] (by show 1 ≤ maxLen; decide)
      rw [show (cellsB [UInt8.ofNat n]).toArray = #[.int .u8 ((n : Int) % 256)] by simp only [cellsB, List.map_cons, List.map_nil, hlb]] at HO0
      try rw [show (w.setCell ⟨p, 2, none⟩ (.int .i64 3)).heap.size = w.heap.size by simp [World.setCell]] at HO0
      have HO0 := Lib.hid HO0
      have HX := Lib.hid Hx.out
      have HI := Lib.hid Hh.out
      clear hlb
      go_enter Try.func41, Try.ntmps41
      go_wp2_with fail
      go_loopw [4, 5] (fun o i wr => RelSh w (UInt8.ofNat n) xs o i wr) (fun _ i _ => n - (intOf i).toNat)
      case atStart => exact ⟨0, _, 1, Nat.zero_le _, rfl, rfl, HO0.out, fun j hj => by cases hj; first | exact Nat.le_refl _ | simp [World.setCell], (Below.refl _ _).alloc (Nat.le_refl _) _⟩
      case round =>
        clear c0 c1 c2 f2
        obtain ⟨k, oa1, cap1, hk, rfl, rfl, hO, hoa, hB⟩ := hrel
        rw [Hxn.out] at hk
        by_cases hlt : k < n
        · obtain ⟨b1, o1, rfl, -, hc⟩ := (HX.out.below hB).at (k := k) (by rw [Hxn.out]; exact hlt)
          obtain ⟨b, eb⟩ : ∃ b, xs.getD k 0 = b := ⟨_, rfl⟩
          rw [eb] at hc
          have HN := Lib.hid fun (w1 : World) (oa2 : Option Addr) (cap2 : Nat) (o : Obj) (i : Value) => relSh_next (w1 := w1) (oa2 := oa2) (cap2 := cap2) (o := o) (b0 := UInt8.ofNat n) (i := i) (by rw [Hxn.out]; exact hlt) eb hoa hB
          have Hk := Lib.hid (show k + 1 = (UInt8.ofNat n :: xs.take k).length by rw [List.length_cons, List.length_take, Hxn.out]; omega)
          have hO2 := hO.below ((Below.refl _ _).alloc (Nat.le_refl _) (.cells #[.int .u8 (b.toNat : Int)] 5))
          have hx := one_new wr b
          clear hO hoa hB eb
          go_wp2_with (at_builtin; refine wpList_append_bytes rfl (.tmp 29) (.tmp 34) rfl (m := 1) (xs := [b]) Hk.out rfl hO2 rfl rfl hx (fun e => by cases e) (by omega) ?_
                       intro oa2 cap2 w2 hO3 hC2 hb2 _)
          go_roundw
          case rel => exact HN.out _ _ _ _ _ hO3 hC2 hb2 (by go_num)
          case measure => simp [intOf]; omega
        · have hke : xs.take k = xs := List.take_of_length_le (by rw [Hxn.out]; omega)
          rw [hke] at hO
          obtain rfl : k = n := by omega
          have H := rput_any p oa cap s oa1 cap1 (UInt8.ofNat k :: xs) (by rw [List.length_cons, Hxn.out]; omega) wr (HI.out.below hB) hO.bts (.inr fun j hj => ⟨by have h := hoa j hj; first | omega | (simp [World.setCell] at h; omega), fun e => by have h := hoa j hj; have := hblk _ e; first | omega | (simp [World.setCell] at h; omega)⟩)
          rw [List.length_cons, Hxn.out] at H
          have H := Lib.hid H
          have HB := Lib.hid hB
          clear hO hoa hB hke
          go_wp2_with fail
          refine H.out.mono ?_
          rintro _ w2 ⟨rfl, h2⟩
          have h2 := Wrote.below HB.out h2
          go_wp2_with fail
          go_end0
          exact ⟨rfl, by rw [HF.out]; exact h2⟩
  · have e1 : ((s.err : Int) == 0) = false := by rw [beq_eq_false_iff_ne]; omega
    have HF := Lib.hid (show s.short xs = s.add (UInt8.ofNat n :: xs) by simp [WS.short, WS.add, WS.fail, he])
    clear ha he
    have HO0 := OB.made w [UInt8.ofNat n] (by show 1 ≤ maxLen; decide)
    rw [show (cellsB [UInt8.ofNat n]).toArray = #[.int .u8 ((n : Int) % 256)] by simp only [cellsB, List.map_cons, List.map_nil, hlb]] at HO0
    try rw [show (w.setCell ⟨p, 2, none⟩ (.int .i64 3)).heap.size = w.heap.size by simp [World.setCell]] at HO0
    have HO0 := Lib.hid HO0
    have HX := Lib.hid Hx.out
    have HI := Lib.hid Hh.out
    clear hlb
    go_enter Try.func41, Try.ntmps41
    go_wp2_with fail
    go_loopw [4, 5] (fun o i wr => RelSh w (UInt8.ofNat n) xs o i wr) (fun _ i _ => n - (intOf i).toNat)
    case atStart => exact ⟨0, _, 1, Nat.zero_le _, rfl, rfl, HO0.out, fun j hj => by cases hj; first | exact Nat.le_refl _ | simp [World.setCell], (Below.refl _ _).alloc (Nat.le_refl _) _⟩
    case round =>
      clear c0 c1 c2 f2
      obtain ⟨k, oa1, cap1, hk, rfl, rfl, hO, hoa, hB⟩ := hrel
      rw [Hxn.out] at hk
      by_cases hlt : k < n
      · obtain ⟨b1, o1, rfl, -, hc⟩ := (HX.out.below hB).at (k := k) (by rw [Hxn.out]; exact hlt)
        obtain ⟨b, eb⟩ : ∃ b, xs.getD k 0 = b := ⟨_, rfl⟩
        rw [eb] at hc
        have HN := Lib.hid fun (w1 : World) (oa2 : Option Addr) (cap2 : Nat) (o : Obj) (i : Value) => relSh_next (w1 := w1) (oa2 := oa2) (cap2 := cap2) (o := o) (b0 := UInt8.ofNat n) (i := i) (by rw [Hxn.out]; exact hlt) eb hoa hB
        have Hk := Lib.hid (show k + 1 = (UInt8.ofNat n :: xs.take k).length by rw [List.length_cons, List.length_take, Hxn.out]; omega)
        have hO2 := hO.below ((Below.refl _ _).alloc (Nat.le_refl _) (.cells #[.int .u8 (b.toNat : Int)] 5))
        have hx := one_new wr b
        clear hO hoa hB eb
        go_wp2_with (at_builtin; refine wpList_append_bytes rfl (.tmp 29) (.tmp 34) rfl (m := 1) (xs := [b]) Hk.out rfl hO2 rfl rfl hx (fun e => by cases e) (by omega) ?_
                     intro oa2 cap2 w2 hO3 hC2 hb2 _)
        go_roundw
        case rel => exact HN.out _ _ _ _ _ hO3 hC2 hb2 (by go_num)
        case measure => simp [intOf]; omega
      · have hke : xs.take k = xs := List.take_of_length_le (by rw [Hxn.out]; omega)
        rw [hke] at hO
        obtain rfl : k = n := by omega
        have H := rput_any p oa cap s oa1 cap1 (UInt8.ofNat k :: xs) (by rw [List.length_cons, Hxn.out]; omega) wr (HI.out.below hB) hO.bts (.inr fun j hj => ⟨by have h := hoa j hj; first | omega | (simp [World.setCell] at h; omega), fun e => by have h := hoa j hj; have := hblk _ e; first | omega | (simp [World.setCell] at h; omega)⟩)
        rw [List.length_cons, Hxn.out] at H
        have H := Lib.hid H
        have HB := Lib.hid hB
        clear hO hoa hB hke
        go_wp2_with fail
        refine H.out.mono ?_
        rintro _ w2 ⟨rfl, h2⟩
        have h2 := Wrote.below HB.out h2
        go_wp2_with fail
        go_end0
        exact ⟨rfl, by rw [HF.out]; exact h2⟩

/-- how long a writer's list is -/
def lenAt (w : World) (p : Nat) : Nat := match w.cell? ⟨p, 1, none⟩ with | some (.slice _ l _) => l | _ => 0
def RelFill (w0 : World) (p : Nat) (oa : Option Addr) (s : WS) (n : Int) (wr : World) : Prop :=
  ∃ k : Nat, ((s.bs.length + k : Nat) : Int) ≤ n ∧ Wrote w0 p oa { s with bs := s.bs ++ List.replicate k 0 } wr

set_option maxHeartbeats 2000000 in
theorem rwFill_any (p : Nat) (oa : Option Addr) (cap : Nat) (s : WS) (n : Int) (w : World) (h : IsW w p oa cap s) :
    Calls Try.prog 42 #[.pointer (some ⟨p, 0, none⟩), .int .i64 n] w fun r w' => r = .returned (.tuple #[]) ∧ Wrote w p oa (s.fill n) w' := by
  obtain ⟨⟨T, h3⟩, h4, h5, h6, h7, h8⟩ := h
  have Hh := Lib.hid (show IsW w p oa cap s from ⟨⟨T, h3⟩, h4, h5, h6, h7, h8⟩)
  obtain ⟨c0, c1, c2, f⟩ := cells3 h3
  have f2 := f 2
  have hnb : s.bs.length ≤ 16777216 := by omega
  clear h3 h4 h5 f
  by_cases he : s.err = 0
  · have e1 : ((s.err : Int) != 0) = false := by rw [bne_eq_false_iff_eq]; omega
    by_cases t1 : n < s.bs.length
    · have HF := Lib.hid (show s.fill n = { s with err := 3 } by simp [WS.fill, WS.fail, t1, he])
      clear he h6
      go_enter Try.func42, Try.ntmps42
      go_wp2_with fail
      go_returns
      exact ⟨rfl, by rw [HF.out]; exact Hh.out.set_err 3 (by decide)⟩
    by_cases t2 : (s.most : Int) < n
    · have HF := Lib.hid (show s.fill n = { s with err := 4 } by simp [WS.fill, WS.fail, t1, t2, he])
      clear he h6
      go_enter Try.func42, Try.ntmps42
      go_wp2_with fail
      go_returns
      exact ⟨rfl, by rw [HF.out]; exact Hh.out.set_err 4 (by decide)⟩
    have hn0 : 0 ≤ n := by omega
    obtain ⟨m, rfl⟩ := Int.eq_ofNat_of_zero_le hn0
    have HF := Lib.hid (show ∀ k, s.bs.length + k = m → s.fill (m : Int) = { s with bs := s.bs ++ List.replicate k 0 } from fun k hk => by
      simp only [WS.fill, WS.add]
      rw [if_neg t1, if_neg t2, if_neg (by omega), Int.toNat_natCast, show m - s.bs.length = k by omega, if_neg (by rw [List.length_replicate]; omega)])
    have hmm : m ≤ s.most := by omega
    have h7' := h7
    clear he h6 hn0
    go_enter Try.func42, Try.ntmps42
    go_wp2_with fail
    clear c0 c1 c2 f2
    go_loopw [] (fun wr => RelFill w p oa s (m : Int) wr) (fun wr => m - lenAt wr p)
    case atStart => exact ⟨0, by omega, by simpa using Wrote.same Hh.out⟩
    case round =>
      obtain ⟨k, hk, oa1, cap1, hW, hC, hb⟩ := hrel
      by_cases hlt : s.bs.length + k < m
      · have HS := Lib.hid fun (W1 w2 : World) (oa2 : Option Addr) (cap2 q : Nat) (hq : q = _) => app_store (W1 := W1) (w2 := w2) (oa2 := oa2) (cap2 := cap2) (b := 0) hW (by show (s.bs ++ List.replicate k 0).length + 1 ≤ s.most; rw [List.length_append, List.length_replicate]; omega) hq
        have HC := Lib.hid hC
        have Hb := Lib.hid hb
        obtain ⟨⟨T, h3⟩, h4, h5, h6, h7, h8⟩ := hW
        obtain ⟨d0, d1, d2, f⟩ := cells3 h3
        have hcur : (s.bs ++ List.replicate k 0).length = s.bs.length + k := by rw [List.length_append, List.length_replicate]
        have hla : lenAt wr p = s.bs.length + k := by unfold lenAt; rw [d1]; exact hcur
        simp only [hcur] at d1
        have hB1 := (Below.refl wr.heap.size wr).alloc (Nat.le_refl _) (.cells #[.int .u8 0] 5)
        have HP := Lib.hid ((hB1.block p (lt_of_heap h3)).trans h3)
        have hpl : p < wr.heap.size := lt_of_heap h3
        have hO1 := h4.below hB1
        have Hcur := Lib.hid hcur
        have Hhp := Lib.hid h5
        have Hla := Lib.hid hla
        clear h3 h4 h5 h6 h7 h8 f hla hcur hC hb hB1
        go_wp2_with (at_builtin; refine wpList_append_bytes rfl (.tmp 39) (.tmp 40) rfl (m := 1) (xs := [0]) Hcur.out.symm rfl hO1 rfl rfl (one_new wr 0) (fun e => by cases e) (by omega) ?_
                     intro oa2 cap2 w2 hO2 hC2 hb2 _
                     have g3 := (hC2.block p (Nat.lt_of_lt_of_le hpl (by simp)) Hhp.out).trans HP.out
                     obtain ⟨d0', d1', d2', f'⟩ := cells3 g3
                     have f1' := f' 1
                     have G3 := Lib.hid g3
                     clear f' g3)
        have HN := Lib.hid (show RelFill w p oa s (m : Int) (w2.setCell ⟨p, 1, none⟩ (.slice oa2 (s.bs.length + k + 1) cap2)) from ⟨k + 1, by omega, by
          have h := HS.out _ w2 oa2 cap2 (s.bs.length + k) Hcur.out.symm ((Below.refl wr.heap.size wr).alloc (Nat.le_refl _) _) hO2 hC2 hb2
          rw [show List.replicate (k + 1) (0 : UInt8) = List.replicate k 0 ++ [0] from List.replicate_succ', ← List.append_assoc]
          exact Wrote.chain HC.out Hb.out h⟩)
        have hla2 : lenAt (w2.setCell ⟨p, 1, none⟩ (.slice oa2 (s.bs.length + k + 1) cap2)) p = s.bs.length + k + 1 := by
          unfold lenAt
          rw [(cells3 (set3_1 G3.out _)).2.1]
        have Hla2 := Lib.hid hla2
        clear hla2 hO2 hC2 hb2 hO1
        go_wp2_with fail
        go_roundw
        case rel => exact HN.out
        case measure => rw [Hla.out, Hla2.out]; omega
      · have hkm : s.bs.length + k = m := by omega
        rw [← HF.out k hkm] at hW
        have HFin := Lib.hid (show Wrote w p oa (s.fill (m : Int)) wr from ⟨oa1, cap1, hW, hC, hb⟩)
        rw [HF.out k hkm] at hW
        obtain ⟨⟨T, h3⟩, h4⟩ := hW
        obtain ⟨d0, d1, d2, f⟩ := cells3 h3
        simp only [List.length_append, List.length_replicate, hkm] at d1
        clear h3 h4 f hC hb hkm
        go_wp2_with fail
        go_end0
        exact ⟨rfl, HFin.out⟩
  · have e1 : ((s.err : Int) != 0) = true := by rw [bne_iff_ne]; omega
    have HF := Lib.hid (show s.fill n = s by simp only [WS.fill, WS.fail, WS.add, if_neg he, if_pos he]; split <;> (try split) <;> rfl)
    clear he h6
    go_enter Try.func42, Try.ntmps42
    go_wp2_with fail
    go_returns
    exact ⟨rfl, by rw [HF.out]; exact Wrote.same Hh.out⟩
end Go.Proofs.Ytofialinjbjcmaa
