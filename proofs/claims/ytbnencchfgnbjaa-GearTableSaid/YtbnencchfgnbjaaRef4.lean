/- The walks of the reference of layer 4: each answers as the plain function of the same name. No condition but lengths. -/
import Derived.Test.YtbnencchfgnbjaaBaleE
import Derived.Test.YtbnencchfgnbjaaArr
set_option linter.unusedSimpArgs false
set_option linter.unusedVariables false
namespace Go.Proofs.Ytbnencchfgnbjaa
open Go.RowKit
attribute [local go_sem] extract_mid extract_drop bget bsize wrap64_u8 i64_u8 u64_u8 bappend

theorem Blk.two {w : World} {g : Nat} {t : TypeId} {a b : Value} (h : Blk w g t #[a, b]) : w.cell? ⟨g, 0, none⟩ = some a ∧ w.cell? ⟨g, 1, none⟩ = some b ∧ w.frozen? ⟨g, 0, none⟩ = false ∧ w.frozen? ⟨g, 1, none⟩ = false :=
  ⟨h.cell 0, h.cell 1, h.frozen 0, h.frozen 1⟩
/-- Spellings of a number: the reference's way. -/
theorem rNum_any (n : Nat) (hn : n ≤ 18446744073709551615) (w : World) :
    Calls Try.prog 22 #[.int .u64 n] w fun r w' => r = .returned (.string ⟨(encNum n).toArray⟩) ∧ Ch [] w w' := by
  go_enter Try.func22, Try.ntmps22
  go_wp2
  go_loopw [0, 3, 4] (fun nv sv iv wr => ∃ (m : Nat) (ds : List UInt8), nv = .int .u64 m ∧ sv = .string ⟨ds.toArray⟩ ∧ iv = .int .i64 ds.length ∧ ds.length ≤ 8 ∧ m < 256 ^ (8 - ds.length) ∧ Hid (digF (8 - ds.length) m ++ ds = digF 8 n) ∧ Ch [] w wr)
    (fun nv _ _ _ => (intOf nv).toNat)
  case atStart => exact ⟨n, [], rfl, rfl, rfl, by simp, by simpa using (by omega : n < 256 ^ 8), by show _ = _; simp, Ch.refl _ _⟩
  case round =>
    obtain ⟨m, ds, rfl, rfl, rfl, hk, hm, hd, hC⟩ := hrel
    have hle : (256 : Nat) ^ (8 - ds.length) ≤ 256 ^ 8 := Nat.pow_le_pow_right (by omega) (by omega)
    have hm64 : m ≤ 18446744073709551615 := by omega
    by_cases hm0 : 0 < m
    · have hk8 : ds.length < 8 := by
        rcases Nat.lt_or_ge ds.length 8 with h | h
        · exact h
        · have : (8 - ds.length) = 0 := by omega
          rw [this] at hm; omega
      obtain ⟨d, hdd⟩ : ∃ d : UInt8, d = UInt8.ofNat m := ⟨_, rfl⟩
      have hw8 : (m : Int) % 256 = (d.toNat : Int) := by rw [hdd]; simp
      have HD := Lib.hid hdd
      have e1 : 8 - ds.length = (8 - (ds.length + 1)) + 1 := by omega
      have hd1 : digF (8 - (ds.length + 1)) (m / 256) ++ (d :: ds) = digF 8 n := by
        rw [← hd.out, e1, digF_pos _ _ (by omega), HD.out]
        simp
        apply UInt8.toNat_inj.1
        simp
      have hm1 : m / 256 < 256 ^ (8 - (ds.length + 1)) := by
        rw [e1, Nat.pow_succ] at hm
        omega
      have H1 := Lib.hid hd1
      have H2 := Lib.hid hm1
      clear hdd hle hd1 hm1 e1 hm hd
      go_wp2_with (refine op_string rfl 40 9 (.tmp 16) rfl 5 Try.underlying40 Try.underlying9 Try.underlying5 [d] (some ⟨wr.heap.size, 0, none⟩) 1 1 rfl (Rd.of_blk (n := 1) (Blk.new wr 5 #[.int .u8 d.toNat]) rfl) ?_)
      go_roundw
      case rel => exact ⟨m / 256, d :: ds, by go_num, rfl, by simp, by simp; omega, by simpa using H2.out, (by show _ = _; simpa using H1.out), hC.alloc _⟩
      case measure => simp [intOf]; omega
    · obtain rfl : m = 0 := by omega
      have hds : ds = digF 8 n := by rw [← hd.out, digF_zero]; rfl
      obtain ⟨d, hdd⟩ : ∃ d : UInt8, d = UInt8.ofNat ds.length := ⟨_, rfl⟩
      have hw8 : IntKind.u8.wrap (ds.length : Int) = (d.toNat : Int) := by rw [hdd, u8_wrap]
      have hw9 : (ds.length : Int) = (d.toNat : Int) := by rw [hdd]; simp; omega
      have HW := Lib.hid hw9
      have HE : Hid (d :: ds = encNum n) := by show _ = _; rw [hdd, hds]; rfl
      clear hdd hds hle hw9
      go_wp2_with (refine op_string rfl 40 9 (.tmp 25) rfl 5 Try.underlying40 Try.underlying9 Try.underlying5 [d] (some ⟨wr.heap.size, 0, none⟩) 1 1 rfl (Rd.of_blk (n := 1) (by first | exact Blk.new wr 5 #[.int .u8 d.toNat] | (rw [HW.out]; exact Blk.new wr 5 #[.int .u8 d.toNat])) rfl) ?_)
      all_goals (go_ret; exact ⟨ret_str HE.out, hC.alloc _⟩)
theorem rStr_any (l : List UInt8) (hl : l.length ≤ 1000000000000) (w : World) :
    Calls Try.prog 23 #[.string ⟨l.toArray⟩] w fun r w' => r = .returned (.string ⟨(encStr l).toArray⟩) ∧ Ch [] w w' := by
  have hq := encNum_len l.length
  go_enter Try.func23, Try.ntmps23
  go_wp2_with (go_at_call 22; refine (rNum_any _ (by omega) _).mono ?_; rintro r w1 ⟨rfl, hC1⟩)
  go_ret
  exact ⟨rfl, hC1⟩

theorem info_rb : (Try.prog.info? 50).map (fun i => i.zero) = some (some (.agg #[.string ⟨#[]⟩, .int .i64 0])) := by kernel_rfl
set_option maxRecDepth 100000 in
theorem rBytes_any (l : List UInt8) (e n : Int) (w : World) :
    Calls Try.prog 58 #[.agg #[.string ⟨l.toArray⟩, .int .i64 e], .int .i64 n] w fun r w' =>
      r = .returned (.tuple #[.agg #[.string ⟨(mBytes l e n).2.1.toArray⟩, .int .i64 (mBytes l e n).2.2], .string ⟨(mBytes l e n).1.toArray⟩]) ∧ Ch [] w w' := by
  by_cases he : e = 0
  · subst he
    by_cases h1 : 0 ≤ n ∧ n ≤ l.length
    · obtain ⟨h2, h3⟩ := h1
      obtain ⟨k, rfl⟩ := Int.eq_ofNat_of_zero_le h2
      have h4 : k ≤ l.length := by omega
      have e1 : mBytes l 0 (k : Int) = (l.take k, l.drop k, 0) := by simp [mBytes, h4]
      rw [e1]
      go_enter Try.func58, Try.ntmps58
      go_wp2
      go_region
      all_goals
        go_wp2
        refine bodyPost_ret (v := .tuple #[.agg #[.string ⟨(l.drop k).toArray⟩, .int .i64 0], .string ⟨(l.take k).toArray⟩]) (by simp [results, Try.results58, go_sem]) rfl ⟨rfl, (by repeat (first | exact Ch.refl _ _ | assumption | apply Ch.alloc | apply Ch.drew | apply Ch.drewN | (apply Ch.setCell; rotate_left; first | (left; simp; done) | (right; simp; done) | (right; simp; omega))))⟩
    · have e1 : mBytes l 0 n = ([], [], 1) := by simp only [mBytes, if_neg h1, if_true]
      rw [e1]
      rcases (by omega : n < 0 ∨ (l.length : Int) < n) with h2 | h2
      · go_enter Try.func58, Try.ntmps58
        go_wp2
        refine bodyPost_ret (v := .tuple #[.agg #[.string ⟨#[]⟩, .int .i64 1], .string ⟨#[]⟩]) (by simp [results, Try.results58, go_sem]) rfl ⟨rfl, (by repeat (first | exact Ch.refl _ _ | assumption | apply Ch.alloc | apply Ch.drew | apply Ch.drewN | (apply Ch.setCell; rotate_left; first | (left; simp; done) | (right; simp; done) | (right; simp; omega))))⟩
      · have h3 : 0 ≤ n := by omega
        go_enter Try.func58, Try.ntmps58
        go_wp2
        refine bodyPost_ret (v := .tuple #[.agg #[.string ⟨#[]⟩, .int .i64 1], .string ⟨#[]⟩]) (by simp [results, Try.results58, go_sem]) rfl ⟨rfl, (by repeat (first | exact Ch.refl _ _ | assumption | apply Ch.alloc | apply Ch.drew | apply Ch.drewN | (apply Ch.setCell; rotate_left; first | (left; simp; done) | (right; simp; done) | (right; simp; omega))))⟩
  · have hb : (e != 0) = true := by simpa using he
    have e1 : mBytes l e n = ([], l, e) := by simp [mBytes, he]
    rw [e1]
    go_enter Try.func58, Try.ntmps58
    go_wp2
    refine bodyPost_ret (v := .tuple #[.agg #[.string ⟨l.toArray⟩, .int .i64 e], .string ⟨#[]⟩]) (by simp [results, Try.results58, go_sem]) rfl ⟨rfl, (by repeat (first | exact Ch.refl _ _ | assumption | apply Ch.alloc | apply Ch.drew | apply Ch.drewN | (apply Ch.setCell; rotate_left; first | (left; simp; done) | (right; simp; done) | (right; simp; omega))))⟩

/-- The reference's Bytes where it begins with no error. -/
theorem numOf_step (v : Nat) (d : UInt8) (hv : v < 72057594037927936) : IntKind.u64.wrap (IntKind.u64.wrap ((v : Int) * 256) + (d.toNat : Int)) = ((v * 256 + d.toNat : Nat) : Int) := by
  have := d.toNat_lt
  rw [IntWalk.u64_in ((v : Int) * 256) (by omega), IntWalk.u64_in _ (by omega)]
  omega
set_option maxRecDepth 100000 in
theorem rTakeNum_nothing {l v : List UInt8} {e n : Int} (w : World) (e1 : mBytes l e 1 = ([], v, n)) (hn : (n != 0) = true) :
    Calls Try.prog 59 #[.agg #[.string ⟨l.toArray⟩, .int .i64 e]] w fun r w' => r = .returned (.tuple #[.agg #[.string ⟨v.toArray⟩, .int .i64 n], .int .u64 0]) ∧ Ch [] w w' := by
  have H1 := Lib.hid e1
  clear e1
  go_enter Try.func59, Try.ntmps59
  go_wp2_with (first | (refine op_box rfl 50 (.tmp 0) rfl _ rfl ?_; intro g w1 hb1 hg hlt hC1; obtain ⟨c0, c1, f0, f1⟩ := hb1.two) | (refine op_alloc rfl 50 rfl _ info_rb ?_; intro g2 w2 hb2 hg2 hlt2 hC2; obtain ⟨c0, c1, f0, f1⟩ := (hb1.ch0 hC2).two; obtain ⟨k0, k1, m0, m1⟩ := hb2.two))
  have hC := hC1.trans hC2
  have hlg : g < g2 := Nat.lt_of_lt_of_le hb1.lt hg2
  replace hb1 := hb1.ch0 hC2
  have hg2 : w.heap.size ≤ g2 := by omega
  clear hC1 hC2 hlt hlt2 c0 c1 f0 f1 k0 k1 m0 m1
  refine (rBytes_any _ _ 1 _).mono ?_
  rw [H1.out]
  clear H1
  rintro r w3 ⟨rfl, hC3⟩
  obtain ⟨c0, c1, f0, f1⟩ := (hb1.ch0 hC3).two
  obtain ⟨k0, k1, m0, m1⟩ := (hb2.ch0 hC3).two
  go_wp2
  replace hC := hC.trans hC3
  refine bodyPost_ret (v := .tuple #[.agg #[.string ⟨v.toArray⟩, .int .i64 n], .int .u64 0]) (by simp [results, Try.results59, go_sem, *]) rfl ⟨rfl, (by repeat (first | exact Ch.refl _ _ | assumption | apply Ch.alloc | apply Ch.drew | apply Ch.drewN | (apply Ch.setCell; rotate_left; first | (left; simp; done) | (right; simp; done) | (right; simp; omega))))⟩
set_option maxRecDepth 100000 in
theorem rTakeNum_high {h : UInt8} {t : List UInt8} (w : World) (h8 : 8 < h.toNat) :
    Calls Try.prog 59 #[.agg #[.string ⟨(h :: t).toArray⟩, .int .i64 0]] w fun r w' => r = .returned (.tuple #[.agg #[.string ⟨#[]⟩, .int .i64 2], .int .u64 0]) ∧ Ch [] w w' := by
  have e1 : mBytes (h :: t) 0 1 = ([h], t, 0) := by simp [mBytes]; omega
  go_enter Try.func59, Try.ntmps59
  go_wp2_with (first | (refine op_box rfl 50 (.tmp 0) rfl _ rfl ?_; intro g w1 hb1 hg hlt hC1; obtain ⟨c0, c1, f0, f1⟩ := hb1.two) | (refine op_alloc rfl 50 rfl _ info_rb ?_; intro g2 w2 hb2 hg2 hlt2 hC2; obtain ⟨c0, c1, f0, f1⟩ := (hb1.ch0 hC2).two; obtain ⟨k0, k1, m0, m1⟩ := hb2.two))
  have hC := hC1.trans hC2
  have hlg : g < g2 := Nat.lt_of_lt_of_le hb1.lt hg2
  replace hb1 := hb1.ch0 hC2
  have hg2 : w.heap.size ≤ g2 := by omega
  clear hC1 hC2 hlt hlt2 c0 c1 f0 f1 k0 k1 m0 m1
  refine (rBytes_any _ _ 1 _).mono ?_
  rw [e1]
  clear e1
  rintro r w3 ⟨rfl, hC3⟩
  obtain ⟨c0, c1, f0, f1⟩ := (hb1.ch0 hC3).two
  obtain ⟨k0, k1, m0, m1⟩ := (hb2.ch0 hC3).two
  go_wp2
  replace hC := hC.trans hC3
  refine bodyPost_ret (v := .tuple #[.agg #[.string ⟨#[]⟩, .int .i64 2], .int .u64 0]) (by simp [results, Try.results59, go_sem, *]) rfl ⟨rfl, (by repeat (first | exact Ch.refl _ _ | assumption | apply Ch.alloc | apply Ch.drew | apply Ch.drewN | (apply Ch.setCell; rotate_left; first | (left; simp; done) | (right; simp; done) | (right; simp; omega))))⟩
set_option maxRecDepth 100000 in
theorem rTakeNum_bad {h : UInt8} {t u : List UInt8} {e : Int} (w : World) (h8 : h.toNat ≤ 8) (e2 : mBytes t 0 (h.toNat : Int) = ([], u, e)) (he : (e != 0) = true) :
    Calls Try.prog 59 #[.agg #[.string ⟨(h :: t).toArray⟩, .int .i64 0]] w fun r w' => r = .returned (.tuple #[.agg #[.string ⟨u.toArray⟩, .int .i64 e], .int .u64 0]) ∧ Ch [] w w' := by
  have e1 : mBytes (h :: t) 0 1 = ([h], t, 0) := by simp [mBytes]; omega
  have H2 := Lib.hid e2
  clear e2
  go_enter Try.func59, Try.ntmps59
  go_wp2_with (first | (refine op_box rfl 50 (.tmp 0) rfl _ rfl ?_; intro g w1 hb1 hg hlt hC1; obtain ⟨c0, c1, f0, f1⟩ := hb1.two) | (refine op_alloc rfl 50 rfl _ info_rb ?_; intro g2 w2 hb2 hg2 hlt2 hC2; obtain ⟨c0, c1, f0, f1⟩ := (hb1.ch0 hC2).two; obtain ⟨k0, k1, m0, m1⟩ := hb2.two))
  have hC := hC1.trans hC2
  have hlg : g < g2 := Nat.lt_of_lt_of_le hb1.lt hg2
  replace hb1 := hb1.ch0 hC2
  have hg2 : w.heap.size ≤ g2 := by omega
  clear hC1 hC2 hlt hlt2 c0 c1 f0 f1 k0 k1 m0 m1
  refine (rBytes_any _ _ 1 _).mono ?_
  rw [e1]
  clear e1
  rintro r w3 ⟨rfl, hC3⟩
  obtain ⟨c0, c1, f0, f1⟩ := (hb1.ch0 hC3).two
  obtain ⟨k0, k1, m0, m1⟩ := (hb2.ch0 hC3).two
  go_wp2_with fail
  refine (rBytes_any _ _ (h.toNat : Int) _).mono ?_
  rw [H2.out]
  rintro r w4 ⟨rfl, hC4⟩
  have hB1 := ((hb1.ch0 hC3).set_ 0 (.string ⟨t.toArray⟩)).set_ 1 (.int .i64 0)
  have hB2 := ((hb2.ch0 hC3).far (p := ⟨g, 0, none⟩) (by simp; omega) (.string ⟨t.toArray⟩)).far (p := ⟨g, 1, none⟩) (by simp; omega) (.int .i64 0)
  replace hC : Ch [] w w4 := (((hC.trans hC3).setCell (p := ⟨g, 0, none⟩) (.inr hg) _).setCell (p := ⟨g, 1, none⟩) (.inr hg) _).trans hC4
  clear c0 c1 f0 f1 k0 k1 m0 m1
  obtain ⟨c0, c1, f0, f1⟩ := (hB1.ch0 hC4).two
  obtain ⟨k0, k1, m0, m1⟩ := (hB2.ch0 hC4).two
  clear hB1 hB2 hC4 hC3 hb1 hb2 H2
  go_wp2
  refine bodyPost_ret (v := .tuple #[.agg #[.string ⟨u.toArray⟩, .int .i64 e], .int .u64 0]) (by simp [results, Try.results59, go_sem, *]) rfl ⟨rfl, (by repeat (first | exact Ch.refl _ _ | assumption | apply Ch.alloc | apply Ch.drew | apply Ch.drewN | (apply Ch.setCell; rotate_left; first | (left; simp; done) | (right; simp; done) | (right; simp; omega))))⟩
set_option maxRecDepth 100000 in
theorem rTakeNum_lead0 {h : UInt8} {t s u : List UInt8} (w : World) (h8 : h.toNat ≤ 8) (e2 : mBytes t 0 (h.toNat : Int) = (0 :: s, u, 0)) :
    Calls Try.prog 59 #[.agg #[.string ⟨(h :: t).toArray⟩, .int .i64 0]] w fun r w' => r = .returned (.tuple #[.agg #[.string ⟨#[]⟩, .int .i64 2], .int .u64 0]) ∧ Ch [] w w' := by
  have e1 : mBytes (h :: t) 0 1 = ([h], t, 0) := by simp [mBytes]; omega
  have H2 := Lib.hid e2
  clear e2
  go_enter Try.func59, Try.ntmps59
  go_wp2_with (first | (refine op_box rfl 50 (.tmp 0) rfl _ rfl ?_; intro g w1 hb1 hg hlt hC1; obtain ⟨c0, c1, f0, f1⟩ := hb1.two) | (refine op_alloc rfl 50 rfl _ info_rb ?_; intro g2 w2 hb2 hg2 hlt2 hC2; obtain ⟨c0, c1, f0, f1⟩ := (hb1.ch0 hC2).two; obtain ⟨k0, k1, m0, m1⟩ := hb2.two))
  have hC := hC1.trans hC2
  have hlg : g < g2 := Nat.lt_of_lt_of_le hb1.lt hg2
  replace hb1 := hb1.ch0 hC2
  have hg2 : w.heap.size ≤ g2 := by omega
  clear hC1 hC2 hlt hlt2 c0 c1 f0 f1 k0 k1 m0 m1
  refine (rBytes_any _ _ 1 _).mono ?_
  rw [e1]
  clear e1
  rintro r w3 ⟨rfl, hC3⟩
  obtain ⟨c0, c1, f0, f1⟩ := (hb1.ch0 hC3).two
  obtain ⟨k0, k1, m0, m1⟩ := (hb2.ch0 hC3).two
  go_wp2_with fail
  refine (rBytes_any _ _ (h.toNat : Int) _).mono ?_
  rw [H2.out]
  rintro r w4 ⟨rfl, hC4⟩
  have hB1 := ((hb1.ch0 hC3).set_ 0 (.string ⟨t.toArray⟩)).set_ 1 (.int .i64 0)
  have hB2 := ((hb2.ch0 hC3).far (p := ⟨g, 0, none⟩) (by simp; omega) (.string ⟨t.toArray⟩)).far (p := ⟨g, 1, none⟩) (by simp; omega) (.int .i64 0)
  replace hC : Ch [] w w4 := (((hC.trans hC3).setCell (p := ⟨g, 0, none⟩) (.inr hg) _).setCell (p := ⟨g, 1, none⟩) (.inr hg) _).trans hC4
  clear c0 c1 f0 f1 k0 k1 m0 m1
  obtain ⟨c0, c1, f0, f1⟩ := (hB1.ch0 hC4).two
  obtain ⟨k0, k1, m0, m1⟩ := (hB2.ch0 hC4).two
  clear hB1 hB2 hC4 hC3 hb1 hb2 H2
  go_wp2
  refine bodyPost_ret (v := .tuple #[.agg #[.string ⟨#[]⟩, .int .i64 2], .int .u64 0]) (by simp [results, Try.results59, go_sem, *]) rfl ⟨rfl, (by repeat (first | exact Ch.refl _ _ | assumption | apply Ch.alloc | apply Ch.drew | apply Ch.drewN | (apply Ch.setCell; rotate_left; first | (left; simp; done) | (right; simp; done) | (right; simp; omega))))⟩
set_option maxRecDepth 100000 in
theorem rTakeNum_empty {h : UInt8} {t u : List UInt8} (w : World) (h8 : h.toNat ≤ 8) (e2 : mBytes t 0 (h.toNat : Int) = ([], u, 0)) :
    Calls Try.prog 59 #[.agg #[.string ⟨(h :: t).toArray⟩, .int .i64 0]] w fun r w' => r = .returned (.tuple #[.agg #[.string ⟨u.toArray⟩, .int .i64 0], .int .u64 0]) ∧ Ch [] w w' := by
  have e1 : mBytes (h :: t) 0 1 = ([h], t, 0) := by simp [mBytes]; omega
  have H2 := Lib.hid e2
  clear e2
  go_enter Try.func59, Try.ntmps59
  go_wp2_with (first | (refine op_box rfl 50 (.tmp 0) rfl _ rfl ?_; intro g w1 hb1 hg hlt hC1; obtain ⟨c0, c1, f0, f1⟩ := hb1.two) | (refine op_alloc rfl 50 rfl _ info_rb ?_; intro g2 w2 hb2 hg2 hlt2 hC2; obtain ⟨c0, c1, f0, f1⟩ := (hb1.ch0 hC2).two; obtain ⟨k0, k1, m0, m1⟩ := hb2.two))
  have hC := hC1.trans hC2
  have hlg : g < g2 := Nat.lt_of_lt_of_le hb1.lt hg2
  replace hb1 := hb1.ch0 hC2
  have hg2 : w.heap.size ≤ g2 := by omega
  clear hC1 hC2 hlt hlt2 c0 c1 f0 f1 k0 k1 m0 m1
  refine (rBytes_any _ _ 1 _).mono ?_
  rw [e1]
  clear e1
  rintro r w3 ⟨rfl, hC3⟩
  obtain ⟨c0, c1, f0, f1⟩ := (hb1.ch0 hC3).two
  obtain ⟨k0, k1, m0, m1⟩ := (hb2.ch0 hC3).two
  go_wp2_with fail
  refine (rBytes_any _ _ (h.toNat : Int) _).mono ?_
  rw [H2.out]
  rintro r w4 ⟨rfl, hC4⟩
  have hB1 := ((hb1.ch0 hC3).set_ 0 (.string ⟨t.toArray⟩)).set_ 1 (.int .i64 0)
  have hB2 := ((hb2.ch0 hC3).far (p := ⟨g, 0, none⟩) (by simp; omega) (.string ⟨t.toArray⟩)).far (p := ⟨g, 1, none⟩) (by simp; omega) (.int .i64 0)
  replace hC : Ch [] w w4 := (((hC.trans hC3).setCell (p := ⟨g, 0, none⟩) (.inr hg) _).setCell (p := ⟨g, 1, none⟩) (.inr hg) _).trans hC4
  clear c0 c1 f0 f1 k0 k1 m0 m1
  obtain ⟨c0, c1, f0, f1⟩ := (hB1.ch0 hC4).two
  obtain ⟨k0, k1, m0, m1⟩ := (hB2.ch0 hC4).two
  clear hB1 hB2 hC4 hC3 hb1 hb2 H2
  go_wp2
  refine wp_loop_rounds 1 ?_
  rw [rounds_succ]
  go_wp2
  refine bodyPost_ret (v := .tuple #[.agg #[.string ⟨u.toArray⟩, .int .i64 0], .int .u64 0]) (by simp [results, Try.results59, go_sem, *]) rfl ⟨rfl, (by repeat (first | exact Ch.refl _ _ | assumption | apply Ch.alloc | apply Ch.drew | apply Ch.drewN | (apply Ch.setCell; rotate_left; first | (left; simp; done) | (right; simp; done) | (right; simp; omega))))⟩
set_option maxRecDepth 100000 in
theorem rTakeNum_ok {h : UInt8} {t s u : List UInt8} {c : UInt8} (w : World) (h8 : h.toNat ≤ 8) (e2 : mBytes t 0 (h.toNat : Int) = (c :: s, u, 0)) (h0 : ((c.toNat : Int) == 0) = false) (hl : s.length + 1 ≤ 8) :
    Calls Try.prog 59 #[.agg #[.string ⟨(h :: t).toArray⟩, .int .i64 0]] w fun r w' => r = .returned (.tuple #[.agg #[.string ⟨u.toArray⟩, .int .i64 0], .int .u64 (numOf (c :: s))]) ∧ Ch [] w w' := by
  have e1 : mBytes (h :: t) 0 1 = ([h], t, 0) := by simp [mBytes]; omega
  have H2 := Lib.hid e2
  clear e2
  go_enter Try.func59, Try.ntmps59
  go_wp2_with (first | (refine op_box rfl 50 (.tmp 0) rfl _ rfl ?_; intro g w1 hb1 hg hlt hC1; obtain ⟨c0, c1, f0, f1⟩ := hb1.two) | (refine op_alloc rfl 50 rfl _ info_rb ?_; intro g2 w2 hb2 hg2 hlt2 hC2; obtain ⟨c0, c1, f0, f1⟩ := (hb1.ch0 hC2).two; obtain ⟨k0, k1, m0, m1⟩ := hb2.two))
  have hC := hC1.trans hC2
  have hlg : g < g2 := Nat.lt_of_lt_of_le hb1.lt hg2
  replace hb1 := hb1.ch0 hC2
  have hg2 : w.heap.size ≤ g2 := by omega
  clear hC1 hC2 hlt hlt2 c0 c1 f0 f1 k0 k1 m0 m1
  refine (rBytes_any _ _ 1 _).mono ?_
  rw [e1]
  clear e1
  rintro r w3 ⟨rfl, hC3⟩
  obtain ⟨c0, c1, f0, f1⟩ := (hb1.ch0 hC3).two
  obtain ⟨k0, k1, m0, m1⟩ := (hb2.ch0 hC3).two
  go_wp2_with fail
  refine (rBytes_any _ _ (h.toNat : Int) _).mono ?_
  rw [H2.out]
  rintro r w4 ⟨rfl, hC4⟩
  have hB1 := ((hb1.ch0 hC3).set_ 0 (.string ⟨t.toArray⟩)).set_ 1 (.int .i64 0)
  have hB2 := ((hb2.ch0 hC3).far (p := ⟨g, 0, none⟩) (by simp; omega) (.string ⟨t.toArray⟩)).far (p := ⟨g, 1, none⟩) (by simp; omega) (.int .i64 0)
  replace hC : Ch [] w w4 := (((hC.trans hC3).setCell (p := ⟨g, 0, none⟩) (.inr hg) _).setCell (p := ⟨g, 1, none⟩) (.inr hg) _).trans hC4
  clear c0 c1 f0 f1 k0 k1 m0 m1
  obtain ⟨c0, c1, f0, f1⟩ := (hB1.ch0 hC4).two
  obtain ⟨k0, k1, m0, m1⟩ := (hB2.ch0 hC4).two
  clear hB1 hB2 hC4 hC3 hb1 hb2 H2
  go_wp2
  go_loop [7, 8] (fun v i => ∃ k : Nat, k ≤ (c :: s).length ∧ i = .int .i64 k ∧ v = .int .u64 (numOf ((c :: s).take k) : Nat)) (fun _ i => (c :: s).length - (intOf i).toNat)
  case atStart => exact ⟨0, Nat.zero_le _, rfl, rfl⟩
  case round =>
    obtain ⟨k, hk, rfl, rfl⟩ := hrel
    by_cases hlt : k < (c :: s).length
    · have hd := List.getElem?_eq_getElem hlt
      have ht := take_snoc_at (c :: s) k _ hd
      have hn1 := numOf_lt ((c :: s).take k)
      have hn2 := pow_le8 ((c :: s).take k).length (by simp at hlt ⊢; omega)
      have hor := numOf_step (numOf ((c :: s).take k)) ((c :: s)[k]) (by omega)
      have HT := Lib.hid ht
      have HO := Lib.hid hor
      clear ht hor hn1 hn2 hd
      have hlt2 : k < s.length + 1 := by simpa using hlt
      go_wp2
      go_round
      case rel => exact ⟨k + 1, by simp; omega, by go_num, by rw [HT.out, numOf_snoc, HO.out]⟩
      case measure => simp [intOf]; omega
    · have hge : s.length + 1 ≤ k := by simp at hlt; omega
      have hnt : numOf ((c :: s).take k) = numOf (c :: s) := by rw [List.take_of_length_le (by simp; omega)]
      have HN := Lib.hid hnt
      clear hnt
      go_wp2
      refine bodyPost_ret (v := .tuple #[.agg #[.string ⟨u.toArray⟩, .int .i64 0], .int .u64 (numOf ((c :: s).take k))]) (by simp [results, Try.results59, go_sem, *]) rfl ⟨by rw [HN.out], (by repeat (first | exact Ch.refl _ _ | assumption | apply Ch.alloc | apply Ch.drew | apply Ch.drewN | (apply Ch.setCell; rotate_left; first | (left; simp; done) | (right; simp; done) | (right; simp; omega))))⟩
theorem rTakeNum_any (l : List UInt8) (e : Int) (w : World) :
    Calls Try.prog 59 #[.agg #[.string ⟨l.toArray⟩, .int .i64 e]] w fun r w' => r = .returned (.tuple #[.agg #[.string ⟨(mNum l e).2.1.toArray⟩, .int .i64 (mNum l e).2.2], .int .u64 (mNum l e).1]) ∧ Ch [] w w' := by
  unfold mNum
  by_cases he : e = 0
  · subst he
    rw [if_pos rfl]
    cases l with
    | nil => exact rTakeNum_nothing (v := []) (n := 1) w rfl rfl
    | cons h t =>
      simp only
      by_cases h8 : 8 < h.toNat
      · rw [if_pos h8]; exact rTakeNum_high w h8
      · rw [if_neg h8]
        by_cases ht : t.length < h.toNat
        · rw [if_pos ht]
          exact rTakeNum_bad (u := []) (e := 1) w (by omega) (by simp [mBytes]; omega) rfl
        · rw [if_neg ht]
          have e2 : mBytes t 0 (h.toNat : Int) = (t.take h.toNat, t.drop h.toNat, 0) := by simp [mBytes]; omega
          have hl : (t.take h.toNat).length ≤ 8 := by simp; omega
          cases hs : t.take h.toNat with
          | nil =>
            rw [hs] at e2
            simp only [List.head?_nil, reduceCtorEq, if_false]
            exact rTakeNum_empty w (by omega) e2
          | cons c s =>
            rw [hs] at e2 hl
            simp only [List.head?_cons, Option.some.injEq]
            by_cases hc : c = 0
            · subst hc
              rw [if_pos rfl]
              exact rTakeNum_lead0 w (by omega) e2
            · rw [if_neg hc]
              refine rTakeNum_ok w (by omega) e2 ?_ (by simpa using hl)
              simp only [beq_eq_false_iff_ne, ne_eq]
              intro h0
              exact hc (UInt8.toNat_inj.1 (by simpa using h0))
  · rw [if_neg he]
    exact rTakeNum_nothing (n := e) w (by simp [mBytes, he]) (by simpa using he)

end Go.Proofs.Ytbnencchfgnbjaa
