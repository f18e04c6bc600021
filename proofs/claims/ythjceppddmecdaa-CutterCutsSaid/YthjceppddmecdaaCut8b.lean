/- Contracts of the cutter, joined, as the laws of layer 8 call it. No condition but sizes. -/
import Derived.Test.YthjceppddmecdaaCut8a
set_option linter.unusedSimpArgs false
set_option linter.unusedVariables false
namespace Go.Proofs.Ythjceppddmecdaa
open Go.RowKit
attribute [local go_sem] extract_mid extract_drop bget bsize wrap64_u8 i64_u8 u64_u8 bappend
theorem cclose_any {F : List SProp} {c q gt cap : Nat} {A : Option Addr} (t : List Nat) (p : List UInt8) (w : World) (hM : Star (cutE c q A p.length cap :: rollE q gt (gRoll t 0 p) p.length :: tailE 5 1 A p.length cap (bvs p) :: F) w) :
    Calls Try.prog 35 #[.pointer (some ⟨c, 0, none⟩)] w fun r w' => r = .returned (.tuple #[.string ⟨p.toArray⟩, .bool (!p.isEmpty)]) ∧ Star (cutE c q A 0 cap :: rollE q gt 0 0 :: tailE 5 1 A 0 cap [] :: F) w' := by
  cases p with
  | nil => exact cclose0_star w hM List.mem_cons_self
  | cons x p => exact cclose_star (x :: p) (by simp) w hM Take.head Take.head Take.head
/-- Write of one text, or two, in any state. -/
theorem cwrite_any {F : List SProp} (gt : Nat) (t : List Nat) (ht : t.length = 256) (ps : List (List UInt8)) (hps : ∀ x ∈ ps, x.length ≤ 1000000) (hnp : ps.length ≤ 1000) {gc gq : Nat} (p0 : List UInt8) (hp0 : p0.length ≤ 255) {A0 : Option Addr} {cap0 : Nat} {As : Option Addr} {cp : Nat} (w : World)
    (hM : Star (cutE gc gq A0 p0.length cap0 :: rollE gq gt (gRoll t 0 p0) p0.length :: tailE 5 1 A0 p0.length cap0 (bvs p0) :: F) w) (hT : tabE gt t ∈ F) (hF : rowE 1 As ps.length (svs ps) ∈ F) :
    Calls Try.prog 34 #[.pointer (some ⟨gc, 0, none⟩), .slice As ps.length cp] w fun r w' => ∃ o p B cb A cap, Hid ((o, p) = cRun t ([], p0) (cat ps)) ∧ o.length ≤ (cat ps).length ∧ p.length ≤ 255 ∧ r = .returned (.slice B o.length cb) ∧
      Star (tailE 9 1 B o.length cb (svs o) :: cutE gc gq A p.length cap :: rollE gq gt (gRoll t 0 p) p.length :: tailE 5 1 A p.length cap (bvs p) :: F) w' := by
  have h1 := cRun_count t (cat ps) ([], p0)
  have h2 := cRun_part t (cat ps) [] p0 hp0
  exact (cwrite_star gt t ht ps hps hnp p0 hp0 (cp := cp) w hM hT hF).mono fun _ _ ⟨B, cb, A, cap, e, h⟩ => ⟨_, _, B, cb, A, cap, rfl, by simp only [List.length_nil, Nat.zero_add] at h1; exact h1, h2, e, h⟩
theorem cwrite0 {F : List SProp} (gt : Nat) (t : List Nat) (ht : t.length = 256) (s : List UInt8) (hs : s.length ≤ 1000000) {gc gq : Nat} {A0 : Option Addr} {cap0 : Nat} {As : Option Addr} {cp : Nat} (w : World)
    (hM : Star (cutE gc gq A0 0 cap0 :: rollE gq gt 0 0 :: tailE 5 1 A0 0 cap0 [] :: F) w) (hT : tabE gt t ∈ F) (hF : rowE 1 As 1 (svs [s]) ∈ F) :
    Calls Try.prog 34 #[.pointer (some ⟨gc, 0, none⟩), .slice As 1 cp] w fun r w' => ∃ o p B cb A cap, Hid ((o, p) = cRun t ([], []) s) ∧ o.length ≤ s.length ∧ p.length ≤ 255 ∧ r = .returned (.slice B o.length cb) ∧
      Star (tailE 9 1 B o.length cb (svs o) :: cutE gc gq A p.length cap :: rollE gq gt (gRoll t 0 p) p.length :: tailE 5 1 A p.length cap (bvs p) :: F) w' := by
  have := cwrite_any gt t ht [s] (by simpa using hs) (by simp) [] (by simp) (cp := cp) w hM hT hF
  rw [cat_one] at this
  exact this
theorem cuts_of {t : List Nat} {s p : List UInt8} {o : List (List UInt8)} (h : (o, p) = cRun t ([], []) s) : cuts t s = if p.isEmpty then o else o ++ [p] := by
  rw [cuts_app, ← h]
  cases p <;> simp
theorem same8e {F : List SProp} (xs : List (List UInt8)) {A B : Option Addr} {n m c d : Nat} {u v : List Value} (w : World) (hM : Star F w) (h1 : rowE 1 A n u ∈ F) (h2 : rowE 1 B m v ∈ F) (hl : xs.length ≤ 1000000000) (hn : n = xs.length) (hm : m = xs.length) (hu : u = svs xs) (hv : v = svs xs) :
    Calls Try.prog 31 #[.slice A n c, .slice B m d] w fun r w' => r = .returned (.bool true) ∧ Star F w' := by
  subst hn hm hu hv
  exact same8 xs A B c d w hM hl h1 h2
end Go.Proofs.Ythjceppddmecdaa
