/- What the laws share, part 9 (LetF). No condition but those that each theorem names. -/
import Derived.Test.YtlhedbjjlomniaaLt2
import Derived.Test.YtlhedbjjlomniaaLt5
import Derived.Test.YtlhedbjjlomniaaLt6
import Derived.Test.YtlhedbjjlomniaaLt7
import Derived.Test.YtlhedbjjlomniaaLt8
set_option linter.unusedSimpArgs false
set_option linter.unusedVariables false
namespace Go.Proofs.Ytlhedbjjlomniaa
open Go.RowKit
attribute [local go_sem] extract_mid extract_drop bget bsize wrap64_u8 i64_u8 u64_u8 bappend
theorem check_star {F : List SProp} (k f t q : Int) (id : List UInt8) (hid : id.length = 32) (wh : Int) (x : List UInt8) (A : Option Addr) (ps : List Int) (c : Nat) (B : Option Addr) (hs : List Int) (d : Nat) (hx : x.length ≤ 1000000000) (hp : ps.length ≤ 1000000000) (hh : hs.length ≤ 1000000000) (w : World) (hM : Star F w) (h1 : rowE 1 A ps.length (ivs ps) ∈ F) (h2 : rowE 1 B hs.length (ivs hs) ∈ F) :
    Calls Try.prog 15 #[.agg (ltC k f t q id wh x A ps.length c B hs.length d)] w fun r w' => r = .returned (.int .i64 (checkL ⟨k, f, t, q, id, wh, x, ps, hs⟩)) ∧ Star F w' :=
  check_early k f t q id hid wh x A ps c B hs d hx hp hh w hM h1 h2 fun r1 r2 r3 r4 r5 r6 r7 r8 r9 => by
    rcases kind_class k with ⟨a, b, c', e⟩ | ⟨a, b, c', e⟩ | ⟨a, b, c', e⟩ | ⟨a, b, c', e⟩ | ⟨a, b, c', e⟩
    · exact check_P k f t q id hid wh x A ps _ c B hs _ d rfl rfl r1 r2 r3 r4 r5 r6 r7 r8 r9 a b c' e w hM h1 h2
    · exact check_N k f t q id hid wh x A ps _ c B hs _ d rfl rfl r1 r2 r3 r4 r5 r6 r7 r8 r9 a b c' e w hM h1 h2
    · exact check_W k f t q id hid wh x A ps _ c B hs _ d rfl rfl r1 r2 r3 r4 r5 r6 r7 r8 r9 a b c' e w hM h1 h2
    · exact check_B k f t q id hid wh x A ps _ c B hs _ d rfl rfl r1 r2 r3 r4 r5 r6 r7 r8 r9 a b c' e w hM h1 h2
    · exact check_F k f t q id hid wh x A ps _ c B hs _ d rfl rfl r1 r2 r3 r4 r5 r6 r7 r8 r9 a b c' e w hM h1 h2
theorem hasPre_yes (t : List UInt8) (ht : t.length ≤ 1000000000) (w : World) : Calls Try.prog 110 #[.string ⟨(99 :: 118 :: t).toArray⟩, .string ⟨#[99, 118]⟩] w fun r w' => r = .returned (.bool true) ∧ w = w' := by
  have b1 : decide ((2 : Int) ≤ (t.length : Int) + 1 + 1) = true := by simp; omega
  go_enter Try.func110, Try.ntmps110
  go_wp2
  go_ret
  exact ⟨rfl, rfl⟩
theorem hasPre_no (s : List UInt8) (ht : s.length ≤ 1000000000) (h : s.take 2 ≠ [99, 118]) (w : World) : Calls Try.prog 110 #[.string ⟨s.toArray⟩, .string ⟨#[99, 118]⟩] w fun r w' => r = .returned (.bool false) ∧ w = w' := by
  rcases s with _ | ⟨a, _ | ⟨b, t⟩⟩
  · clear h
    go_enter Try.func110, Try.ntmps110
    go_wp2
    go_ret
    exact ⟨rfl, rfl⟩
  · clear h
    go_enter Try.func110, Try.ntmps110
    go_wp2
    go_ret
    exact ⟨rfl, rfl⟩
  · have HB : Hid (decide ([a, b] = [99, 118]) = false) := by show _ = _; simpa using h
    have b1 : decide ((2 : Int) ≤ (t.length : Int) + 1 + 1) = true := by simp; omega
    have ht' : t.length ≤ 1000000000 := by simp at ht; omega
    clear h ht
    go_enter Try.func110, Try.ntmps110
    go_wp2_with (first | ((with_reducible refine at_bin' (op := .eql) ?_); refine BigFrame.wpList_want (by rfl) fun K hK => ws_of_ex (ex_eqs rfl rfl rfl HB.out) (hK _ _ ?_); clear hK K))
    go_ret
    exact ⟨rfl, rfl⟩
theorem cutS_yes (t : List UInt8) (ht : t.length ≤ 1000000000) (w : World) : Calls Try.prog 93 #[.string ⟨(99 :: 118 :: t).toArray⟩, .string ⟨#[99, 118]⟩] w fun r w' => r = .returned (.tuple #[.string ⟨t.toArray⟩, .bool true]) ∧ w = w' := by
  have H := Lib.hid (hasPre_yes t ht)
  have b1 : decide ((2 : Int) ≤ (t.length : Int) + 1 + 1) = true := by simp; omega
  go_enter Try.func93, Try.ntmps93
  go_wp2_with (first | (go_at_call 110; refine (H.out _).mono ?_; rintro _ _ ⟨rfl, rfl⟩))
  go_ret2
  exact ⟨rfl, rfl⟩
theorem cutS_no (s : List UInt8) (ht : s.length ≤ 1000000000) (h : s.take 2 ≠ [99, 118]) (w : World) : Calls Try.prog 93 #[.string ⟨s.toArray⟩, .string ⟨#[99, 118]⟩] w fun r w' => r = .returned (.tuple #[.string ⟨s.toArray⟩, .bool false]) ∧ w = w' := by
  have H := Lib.hid (hasPre_no s ht h)
  clear h
  go_enter Try.func93, Try.ntmps93
  go_wp2_with (first | (go_at_call 110; refine (H.out _).mono ?_; rintro _ _ ⟨rfl, rfl⟩))
  go_ret2
  exact ⟨rfl, rfl⟩
theorem cut_yes (t : List UInt8) (ht : t.length ≤ 1000000000) (w : World) : Calls Try.prog 58 #[.string ⟨(99 :: 118 :: t).toArray⟩, .string ⟨#[99, 118]⟩] w fun r w' => r = .returned (.tuple #[.string ⟨t.toArray⟩, .bool true]) ∧ w = w' := by
  have H := Lib.hid (cutS_yes t ht)
  go_enter Try.func58, Try.ntmps58
  go_wp2_with (first | (go_at_call 93; refine (H.out _).mono ?_; rintro _ _ ⟨rfl, rfl⟩))
  go_ret2
  exact ⟨rfl, rfl⟩
theorem cut_no (s : List UInt8) (ht : s.length ≤ 1000000000) (h : s.take 2 ≠ [99, 118]) (w : World) : Calls Try.prog 58 #[.string ⟨s.toArray⟩, .string ⟨#[99, 118]⟩] w fun r w' => r = .returned (.tuple #[.string ⟨s.toArray⟩, .bool false]) ∧ w = w' := by
  have H := Lib.hid (cutS_no s ht h)
  clear h
  go_enter Try.func58, Try.ntmps58
  go_wp2_with (first | (go_at_call 93; refine (H.out _).mono ?_; rintro _ _ ⟨rfl, rfl⟩))
  go_ret2
  exact ⟨rfl, rfl⟩
theorem build_lt (k f t q : Int) (w : World) : (Instr.build 26 #[(0, .int .i64 k), (1, .int .i64 f), (2, .int .i64 t), (3, .int .i64 q)]).run Try.prog w = .ok (.agg (ltC k f t q z32 0 [] none 0 0 none 0 0)) w := by
  unfold ltC z32
  kernel_rfl
theorem build_lt0 (w : World) : (Instr.build 26 #[]).run Try.prog w = .ok (.agg (ltC 0 0 0 0 z32 0 [] none 0 0 none 0 0)) w := by
  unfold ltC z32
  kernel_rfl
end Go.Proofs.Ytlhedbjjlomniaa
