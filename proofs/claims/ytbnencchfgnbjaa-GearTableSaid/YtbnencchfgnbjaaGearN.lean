/- The walks of a table's name and of the reference's Table and Name; GearTable. No condition but sizes. -/
import Derived.Test.YtbnencchfgnbjaaGearA
import Derived.Test.YtbnencchfgnbjaaRef2
import Derived.Test.YtbnencchfgnbjaaLaw
set_option linter.unusedSimpArgs false
set_option linter.unusedVariables false
namespace Go.Proofs.Ytbnencchfgnbjaa
open Go.RowKit
attribute [local go_sem] extract_mid extract_drop bget bsize wrap64_u8 i64_u8 u64_u8 bappend
/-- A number's eight bytes. -/
def u64b (x : Nat) : List UInt8 := (List.range 8).map fun j => UInt8.ofNat (x / 256 ^ (7 - j))
theorem u64b_len (x : Nat) : (u64b x).length = 8 := by simp [u64b]
theorem u64b_at (x j : Nat) (h : j < 8) : (u64b x)[j]? = some (UInt8.ofNat (x / 256 ^ (7 - j))) := by simp [u64b, h]
def tabB (t : List Nat) : List UInt8 := t.flatMap u64b
theorem tabB_len (t : List Nat) : (tabB t).length = 8 * t.length := by
  induction t with
  | nil => rfl
  | cons x t ih => simp only [tabB, List.flatMap_cons, List.length_append, List.length_cons, u64b_len] at ih ⊢; omega
theorem tabB_snoc {t : List Nat} {k x : Nat} (h : t[k]? = some x) : tabB (t.take (k + 1)) = tabB (t.take k) ++ u64b x := by
  rw [take_snoc_at _ _ _ h]; simp [tabB]
theorem u64b_words (x : Nat) (hx : x < 18446744073709551616) : u64b x = wbytes (UInt32.ofNat (x / 4294967296)) ++ wbytes (UInt32.ofNat (x % 4294967296)) := by
  have e1 : (UInt32.ofNat (x / 4294967296)).toNat = x / 4294967296 := by simp; omega
  have e2 : (UInt32.ofNat (x % 4294967296)).toNat = x % 4294967296 := by simp
  have h : ∀ a b : Nat, a % 256 = b % 256 → UInt8.ofNat a = UInt8.ofNat b := fun a b h => by
    apply UInt8.toNat_inj.1
    simpa using h
  simp only [u64b, wbytes, e1, e2, show List.range 8 = [0, 1, 2, 3, 4, 5, 6, 7] from rfl, List.map_cons, List.map_nil, List.cons_append, List.nil_append]
  refine List.cons_eq_cons.2 ⟨h _ _ (by omega), List.cons_eq_cons.2 ⟨h _ _ (by omega), List.cons_eq_cons.2 ⟨h _ _ (by omega), List.cons_eq_cons.2 ⟨h _ _ (by omega), List.cons_eq_cons.2 ⟨h _ _ (by omega), List.cons_eq_cons.2 ⟨h _ _ (by omega), List.cons_eq_cons.2 ⟨h _ _ (by omega), List.cons_eq_cons.2 ⟨h _ _ (by omega), rfl⟩⟩⟩⟩⟩⟩⟩⟩
set_option maxRecDepth 100000 in
theorem rtable_star {F : List SProp} (seed : List UInt8) (hs : seed.length ≤ 1000000) (w : World) (hM : Star F w) :
    Calls Try.prog 55 #[.string ⟨seed.toArray⟩] w fun r w' => ∃ A c, r = .returned (.slice A 256 c) ∧ Star (rowE 1 A 256 (uvs (gTab seed)) :: F) w' := by
  obtain ⟨T, hT⟩ : ∃ T, T = gTab seed := ⟨_, rfl⟩
  have HTl : T.length = 256 := by rw [hT]; exact gTab_len seed
  have HT := Lib.hid hT
  rw [← hT]
  clear hT
  go_enter Try.func55, Try.ntmps55
  go_wp2_with (first | (first | (have hM0 := hM; clear hM; refine BigFrame.wpList_want (by rfl) fun K hK => ws_slice_own hM0 (n := 0) rfl 26 1 (.int .u64 0) [] Try.underlying77 (by kernel_rfl) rfl (by simp [Value.cells, iv, sv, bv]) (by rfl) (by decide) (by decide) (cs := uvs []) (by rfl) (fun g3 w hM => hK _ _ ?_); clear hM0 hK K) | fail))
  go_loopw [3, 4] (fun out i wr => ∃ (k : Nat) (A : Option Addr) (c : Nat), k ≤ 256 ∧ i = .int .i64 k ∧ out = .slice A k c ∧ Star (ownE 26 1 A k c (uvs (T.take k)) :: F) wr) (fun _ i _ => 256 - (intOf i).toNat)
  case atStart => exact ⟨0, _, _, by omega, rfl, rfl, hM⟩
  case round =>
    clear hM
    obtain ⟨k, A, c, hk, rfl, rfl, hM⟩ := hrel
    by_cases hlt : k < 256
    · obtain ⟨d, hd⟩ : ∃ d, d = UInt8.ofNat k := ⟨_, rfl⟩
      have hdk : IntKind.u8.wrap (k : Int) = (d.toNat : Int) := by rw [IntKind.wrap_u8, hd]; simp; try omega
      have hTk : T[k]? = some (gOne seed d) := by rw [HT.out, hd]; exact gTab_at seed k hlt
      have HTS := Lib.hid (take_snoc_at _ _ _ hTk)
      have HR : ∀ {L : List SProp} (w : World), Star L w → Calls Try.prog 69 #[.string ⟨seed.toArray⟩, .int .u8 d.toNat] w fun r w' => r = .returned (.int .u64 (gOne seed d)) ∧ Star L w' := fun w hM => rone_star seed d hs w hM
      generalize gOne seed d = x at HTS HR hTk
      clear hTk hd
      go_wp2_with (first | (go_at_call 69; have hM0 := hM; clear hM; (first | (with_reducible refine (HR _ hM0).mono ?_) | fail); clear hM0; rintro _ w ⟨rfl, hM⟩) | (first | (have hM0 := hM; clear hM; refine BigFrame.wpList_want (by rfl) fun K hK => ws_slice_row hM0 (n := 1) rfl 26 1 (.int .u64 0) [uv x] Try.underlying77 (by kernel_rfl) rfl (by simp [Value.cells, iv, sv, bv, uv]) (by rfl) (by decide) (cs := uvs [x]) (by rfl) (fun gr w hM => hK _ _ ?_); clear hM0 hK K) | fail) | (first | (have hM0 := hM; clear hM; refine BigFrame.wpList_want (by rfl) fun K hK => ws_append hM0 rfl rfl rfl 26 ((.int .u64 0)) 1 8 Try.underlying77 (by kernel_rfl) (by rfl) (by decide) (by (repeat (first | (with_reducible exact Take.head) | apply Take.tail)); first | done | fail) (by first | (apply Star.row hM0; (repeat (first | assumption | (with_reducible exact List.mem_cons_self) | apply List.mem_cons_of_mem)); done) | (apply Star.own hM0; (repeat (first | assumption | (with_reducible exact List.mem_cons_self) | apply List.mem_cons_of_mem)); done) | (apply Star.arr hM0; (focus ((repeat (first | assumption | (with_reducible exact List.mem_cons_self) | apply List.mem_cons_of_mem)); done)); assumption)) (uvs_one [x]) ((by omega)) (fun A1 c1 w hM hnil => hK _ _ ?_); clear hM0 hK K) | fail))
      go_roundw
      case rel => exact ⟨k + 1, A1, c1, by omega, by go_num, rfl, by rw [HTS.out, uvs_app]; exact hM.sel (by repeat (first | (with_reducible exact Sel.refl) | (with_reducible exact Take.head) | (with_reducible apply Take.tail) | (with_reducible apply Sel.cons) | (with_reducible apply Sel.drop)))⟩
      case measure => simp [intOf]; omega
    · obtain rfl : k = 256 := by omega
      rw [List.take_of_length_le (by omega)] at hM
      go_wp2
      go_ret
      exact ⟨A, c, rfl, hM.freeze⟩
set_option maxRecDepth 100000 in
set_option maxHeartbeats 2000000 in
theorem rname_star {F : List SProp} (t : List Nat) (A : Option Addr) (c : Nat) (ht : t.length = 256) (hx : ∀ x ∈ t, x < 18446744073709551616) (w : World) (hM : Star F w) (hT : rowE 1 A 256 (uvs t) ∈ F) :
    Calls Try.prog 57 #[.slice A 256 c] w fun r w' => r = .returned (.string ⟨(textOf (sha (tabB t))).toArray⟩) ∧ Star F w' := by
  have HTL := Lib.hid ht
  have HX := Lib.hid hx
  have htb := tabB_len t
  rw [ht] at htb
  have HTB := Lib.hid htb
  obtain ⟨ad, rfl⟩ : ∃ ad, A = some ad := by obtain ⟨ad, h, _⟩ := (hM.row hT).2 (by omega); exact ⟨ad, h⟩
  clear ht hx htb
  go_enter Try.func57, Try.ntmps57
  go_wp2
  go_loopw [3, 8] (fun s i wr => ∃ k : Nat, k ≤ 256 ∧ i = .int .i64 k ∧ s = .string ⟨(tabB (t.take k)).toArray⟩ ∧ Star F wr) (fun _ i _ => 256 - (intOf i).toNat)
  case atStart => exact ⟨0, by omega, rfl, rfl, hM⟩
  case round =>
    clear hM
    obtain ⟨k, hk, rfl, rfl, hM⟩ := hrel
    have hbl := tabB_len (t.take k)
    have htk : (t.take k).length ≤ 256 := by simp; omega
    by_cases hlt : k < 256
    · obtain ⟨x, hx⟩ : ∃ x, t[k]? = some x := ⟨_, List.getElem?_eq_getElem (by rw [HTL.out]; exact hlt)⟩
      have hv := uvs_at hx
      have hx64 := HX.out x (List.mem_of_getElem? hx)
      have HS := Lib.hid (tabB_snoc hx)
      have HU := Lib.hid (u64b_words x hx64)
      obtain ⟨a, ha⟩ : ∃ a, a = UInt32.ofNat (x / 4294967296) := ⟨_, rfl⟩
      obtain ⟨b, hb⟩ : ∃ b, b = UInt32.ofNat (x % 4294967296) := ⟨_, rfl⟩
      have ea : IntKind.u32.wrap ((x : Int) / 4294967296) = (w32 a) := by rw [IntKind.wrap_u32, ha]; simp [w32]; try omega
      have eb : IntKind.u32.wrap ((x : Int) % 4294967296) = (w32 b) := by rw [IntKind.wrap_u32, hb]; simp [w32]; try omega
      have la : (wbytes a).length = 4 := by simp [wbytes]
      have lb : (wbytes b).length = 4 := by simp [wbytes]
      rw [← ha, ← hb] at HU
      have q1 : (x : Int).tmod 4294967296 = (x : Int) % 4294967296 := Int.tmod_eq_emod_of_nonneg (by omega)
      clear hx ha hb
      go_wp2_with (first | (first | (refine BigFrame.wpList_want (by rfl) fun K hK => ws_rowload rfl rfl (by first | (apply Star.row hM; (repeat (first | assumption | (with_reducible exact List.mem_cons_self) | apply List.mem_cons_of_mem)); done) | (apply Star.own hM; (repeat (first | assumption | (with_reducible exact List.mem_cons_self) | apply List.mem_cons_of_mem)); done) | (apply Star.arr hM; (focus ((repeat (first | assumption | (with_reducible exact List.mem_cons_self) | apply List.mem_cons_of_mem)); done)); assumption)) (by assumption) (by kernel_rfl) (hK _ _ ?_); clear hK K) | fail) | (go_at_call 67; have hM0 := hM; clear hM; (first | (with_reducible refine (wbytes_star a _ hM0).mono ?_) | fail); clear hM0; rintro _ w ⟨rfl, hM⟩) | (go_at_call 67; have hM0 := hM; clear hM; (first | (with_reducible refine (wbytes_star b _ hM0).mono ?_) | fail); clear hM0; rintro _ w ⟨rfl, hM⟩))
      go_roundw
      case rel => exact ⟨k + 1, by omega, by go_num, by rw [HS.out, HU.out], hM⟩
      case measure => simp [intOf]; omega
    · obtain rfl : k = 256 := by omega
      rw [List.take_of_length_le (by rw [HTL.out]; omega)] at hbl ⊢
      have hsl := sha_len (tabB t)
      go_wp2_with (first | (go_at_call 35; have hM0 := hM; clear hM; (first | (with_reducible refine (rOf_star (tabB t) (by rw [HTB.out]; omega) _ hM0).mono ?_) | fail); clear hM0; rintro _ w ⟨rfl, hM⟩) | (go_at_call 71; have hM0 := hM; clear hM; (first | (with_reducible refine (rText_star (sha (tabB t)) hsl _ hM0).mono ?_) | fail); clear hM0; rintro _ w ⟨rfl, hM⟩))
      go_ret
      exact ⟨rfl, hM⟩
end Go.Proofs.Ytbnencchfgnbjaa
