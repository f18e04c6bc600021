/- The walk of a table's name; GearTable: for all seeds the law answers true. No condition but sizes. -/
import Derived.Test.YtbnencchfgnbjaaGearN
set_option linter.unusedSimpArgs false
set_option linter.unusedVariables false
namespace Go.Proofs.Ytbnencchfgnbjaa
open Go.RowKit
attribute [local go_sem] extract_mid extract_drop bget bsize wrap64_u8 i64_u8 u64_u8 bappend
theorem shr8_nat (x j : Nat) : (x : Int) / 2 ^ (8 * (7 - (j : Int))).toNat = ((x / 256 ^ (7 - j) : Nat) : Int) := by
  rw [show (8 * (7 - (j : Int))).toNat = 8 * (7 - j) by omega, Int.natCast_ediv]
  congr 1
  rw [Int.natCast_pow, show ((256 : Nat) : Int) = 2 ^ 8 by decide, ← Int.pow_mul]
/-- A number's byte is shifted down. -/
theorem ex_shr8 {P : Program} {w : World} {o : Oper} {a : Act} {t ty : TypeId} {x y : Operand} (ho : o.op = .binOp .shr t x y ty) {n j : Nat} (hx : a.eval x = .int .u64 (n : Int)) (hy : a.eval y = .int .i64 (8 * (7 - (j : Int)))) (hj : j ≤ 7) {z : Nat} (hz : n / 256 ^ (7 - j) = z) :
    (execOp a.eval o).run P w = .ok (.value (.int .u64 (z : Int))) w := by
  have h0 : (0 : Int) ≤ 8 * (7 - (j : Int)) := by omega
  have h9 := shr8_nat n j
  rw [hz] at h9
  unfold execOp
  simp only [ho, hx, hy]
  simp [go_sem, h0, h9]
theorem info_u8c : (Try.prog.info? 5).map (fun i => (i.zero, i.size, i.bytes)) = some (some (.int .u8 0), 1, 1) := by kernel_rfl
set_option maxRecDepth 100000 in
set_option maxHeartbeats 4000000 in
theorem gname_star {F : List SProp} (gt : Nat) (t : List Nat) (ht : t.length = 256) (hx : ∀ x ∈ t, x < 18446744073709551616) (w : World) (hM : Star F w) (hT : tabE gt t ∈ F) :
    Calls Try.prog 56 #[.pointer (some ⟨gt, 0, none⟩)] w fun r w' => r = .returned (.string ⟨(textOf (sha (tabB t))).toArray⟩) ∧ Star F w' := by
  have HTL := Lib.hid ht
  have HX := Lib.hid hx
  have htb := tabB_len t
  rw [ht] at htb
  have HTB := Lib.hid htb
  obtain ⟨BT, hBT⟩ : ∃ BT, tabB t = BT := ⟨_, rfl⟩
  have HBT := Lib.hid hBT
  rw [hBT]
  clear ht hx htb hBT
  go_enter Try.func56, Try.ntmps56
  go_wp2
  replace hM : Star (ownE 5 1 none 0 0 (bvs []) :: _) w := hM.nilown 5 1
  go_loopw [3, 8] (fun s i wr => ∃ (k n : Nat) (A : Option Addr) (c : Nat), k ≤ 256 ∧ n = 8 * k ∧ i = .int .i64 k ∧ s = .slice A n c ∧ Star (ownE 5 1 A n c (bvs (tabB (t.take k))) :: F) wr) (fun _ i _ => 256 - (intOf i).toNat)
  case atStart => exact ⟨0, 0, none, 0, by omega, rfl, rfl, rfl, hM⟩
  case round =>
    clear hM
    obtain ⟨k, n, A, c, hk, hn, rfl, rfl, hM⟩ := hrel
    have hnb : n ≤ 2048 := by omega
    by_cases hlt : k < 256
    · obtain ⟨x, hx⟩ : ∃ x, t[k]? = some x := ⟨_, List.getElem?_eq_getElem (by rw [HTL.out]; exact hlt)⟩
      have hv := uvs_at hx
      have hx64 := HX.out x (List.mem_of_getElem? hx)
      have HS := Lib.hid (tabB_snoc hx)
      have hltI : (k : Int) < 256 := by omega
      have HN := Lib.hid hn
      generalize tabB (t.take k) = B at HS hM
      clear hx hn
      go_wp2_with (first | (first | (refine BigFrame.wpList_want (by rfl) fun K hK => ws_rowload0 rfl rfl (by first | (apply Star.row hM; (repeat (first | assumption | (with_reducible exact List.mem_cons_self) | apply List.mem_cons_of_mem)); done) | (apply Star.own hM; (repeat (first | assumption | (with_reducible exact List.mem_cons_self) | apply List.mem_cons_of_mem)); done) | (apply Star.arr hM; (focus ((repeat (first | assumption | (with_reducible exact List.mem_cons_self) | apply List.mem_cons_of_mem)); done)); assumption)) (by assumption) (by kernel_rfl) (hK _ _ ?_); clear hK K) | fail))
      obtain ⟨wq, rfl⟩ : ∃ wq : World, wq = wr := ⟨_, rfl⟩
      go_loopw [3, 6] (fun s i wx => ∃ (j m : Nat) (A : Option Addr) (c : Nat), j ≤ 8 ∧ m = n + j ∧ i = .int .i64 (7 - (j : Int)) ∧ s = .slice A m c ∧ Star (ownE 5 1 A m c (bvs (B ++ (u64b x).take j)) :: F) wx) (fun _ i _ => (intOf i + 1).toNat)
      case atStart => exact ⟨0, n, A, c, by omega, rfl, rfl, rfl, by rw [List.take_zero, List.append_nil]; exact hM⟩
      case round =>
        clear hM
        obtain ⟨j, m, A, c, hj, hm, rfl, rfl, hM⟩ := hrel
        have hmb : m ≤ 2056 := by omega
        have HM := Lib.hid hm
        clear hm
        by_cases hj8 : j < 8
        · have hi0 : (0 : Int) ≤ 7 - (j : Int) := by omega
          obtain ⟨d, hd⟩ : ∃ d, d = UInt8.ofNat (x / 256 ^ (7 - j)) := ⟨_, rfl⟩
          obtain ⟨z, hz⟩ : ∃ z, x / 256 ^ (7 - j) = z := ⟨_, rfl⟩
          have hg := u64b_at x j hj8
          have hdz : IntKind.u8.wrap (z : Int) = (d.toNat : Int) := by rw [hd, hz, ← u8_wrap]
          rw [← hd] at hg
          have HT := Lib.hid (take_snoc_at _ _ _ hg)
          have HZ := Lib.hid hz
          clear hg hd hz
          go_wp2_with (first | (refine BigFrame.wpList_want (by rfl) fun K hK => ws_of_ex (ex_shr8 rfl rfl rfl (by omega) HZ.out) (hK _ _ ?_); clear hK K) | (first | (have hM0 := hM; clear hM; refine BigFrame.wpList_want (by rfl) fun K hK => ws_slice_row hM0 (n := 1) rfl 5 1 (.int .u8 0) [bv d] Try.underlying40 (by kernel_rfl) rfl (by simp [Value.cells, iv, sv, bv]) (by rfl) (by decide) (cs := bvs [d]) (by rfl) (fun gr w hM => hK _ _ ?_); clear hM0 hK K) | fail) | (first | (have hM0 := hM; clear hM; refine BigFrame.wpList_want (by rfl) fun K hK => ws_append hM0 rfl rfl rfl 5 ((.int .u8 0)) 1 1 Try.underlying40 (by kernel_rfl) (by rfl) (by decide) (by (repeat (first | (with_reducible exact Take.head) | apply Take.tail)); first | done | fail) (by first | (apply Star.row hM0; (repeat (first | assumption | (with_reducible exact List.mem_cons_self) | apply List.mem_cons_of_mem)); done) | (apply Star.own hM0; (repeat (first | assumption | (with_reducible exact List.mem_cons_self) | apply List.mem_cons_of_mem)); done) | (apply Star.arr hM0; (focus ((repeat (first | assumption | (with_reducible exact List.mem_cons_self) | apply List.mem_cons_of_mem)); done)); assumption)) (bvs_oneCell [d]) ((by clear hdz; omega)) (fun A1 c1 w hM hnil => hK _ _ ?_); clear hM0 hK K) | fail))
          go_roundw
          case rel => exact ⟨j + 1, m + 1, A1, c1, by omega, by have := HM.out; omega, by (congr 1; omega), rfl, by rw [HT.out, ← List.append_assoc, bvs_app]; exact hM.sel (by repeat (first | (with_reducible exact Sel.refl) | (with_reducible exact Take.head) | (with_reducible apply Take.tail) | (with_reducible apply Sel.cons) | (with_reducible apply Sel.drop)))⟩
          case measure => simp [intOf]; omega
        · obtain rfl : j = 8 := by omega
          have HF : Hid ((u64b x).take 8 = u64b x) := by show _ = _; rw [List.take_of_length_le (by rw [u64b_len]; omega)]
          rw [HF.out] at hM
          go_wp2
          go_roundw
          case rel => exact ⟨k + 1, m, A, c, by omega, by have h1 := HM.out; have h2 := HN.out; omega, by go_num, rfl, by rw [HS.out]; exact hM⟩
          case measure => simp [intOf]; omega
    · obtain rfl : k = 256 := by omega
      rw [List.take_of_length_le (by rw [HTL.out]; omega), HBT.out] at hM
      have hsl := sha_len BT
      have hcl : BT.length ≤ 2048 := by have := HTB.out; rw [HBT.out] at this; omega
      have HO : ∀ {L : List SProp} (g : Nat) (w : World), Star L w → rowE 1 (some ⟨g, 0, none⟩) 1 (svs [BT]) ∈ L → Calls Try.prog 33 #[.slice (some ⟨g, 0, none⟩) 1 1] w fun r w' => r = .returned (.agg (bvs (sha (BT))).toArray) ∧ Star L w' := fun g w hM hx => by
        have := of_star [BT] _ 1 1 (by simp; omega) (by omega) w hM hx; rwa [cat_one] at this
      go_wp2_with (first | (first | (refine BigFrame.wpList_want (by rfl) fun K hK => ws_string (l := BT) rfl 5 Try.underlying40 Try.underlying9 Try.underlying5 rfl (by first | (apply Star.row hM; (repeat (first | assumption | (with_reducible exact List.mem_cons_self) | apply List.mem_cons_of_mem)); done) | (apply Star.own hM; (repeat (first | assumption | (with_reducible exact List.mem_cons_self) | apply List.mem_cons_of_mem)); done) | (apply Star.arr hM; (focus ((repeat (first | assumption | (with_reducible exact List.mem_cons_self) | apply List.mem_cons_of_mem)); done)); assumption)) (hK _ _ ?_); clear hK K) | fail) | (first | (have hM0 := hM; clear hM; refine BigFrame.wpList_want (by rfl) fun K hK => ws_slice_row hM0 (n := 1) rfl 9 1 (.string ByteArray.empty) [sv BT] Try.underlying34 (by kernel_rfl) rfl (by simp [Value.cells, iv, sv, bv]) (by rfl) (by decide) (cs := svs [BT]) (by rfl) (fun gr w hM => hK _ _ ?_); clear hM0 hK K) | fail) | (go_at_call 33; have hM0 := hM; clear hM; (first | (with_reducible refine (HO gr _ hM0 (by (repeat (first | assumption | (with_reducible exact List.mem_cons_self) | apply List.mem_cons_of_mem)); first | done | fail)).mono ?_) | fail); clear hM0; rintro _ w ⟨rfl, hM⟩) | (go_at_call 70; have hM0 := hM; clear hM; (first | (with_reducible refine (text_star (sha BT) hsl _ hM0).mono ?_) | fail); clear hM0; rintro _ w ⟨rfl, hM⟩))
      go_ret
      exact ⟨rfl, hM.sel (by repeat (first | (with_reducible exact Sel.refl) | (with_reducible exact Take.head) | (with_reducible apply Take.tail) | (with_reducible apply Sel.cons) | (with_reducible apply Sel.drop)))⟩
def cut20g (l : List UInt8) : List UInt8 := cutP l 20
theorem cut20g_len (l : List UInt8) : (cut20g l).length ≤ 20 := by have := cutP_len l 20 (by omega); unfold cut20g; omega
theorem cut20g_any (l : List UInt8) (w : World) : Calls Try.prog 15 #[.string ⟨l.toArray⟩, .int .i64 20] w fun r w' => r = .returned (.string ⟨(cut20g l).toArray⟩) ∧ w = w' := cut_any l 20 (by omega) w
set_option maxRecDepth 100000 in
set_option maxHeartbeats 4000000 in
theorem gearTable_walk {F : List SProp} (s0 : List UInt8) (_w0 : s0.length ≤ 9223372036854775807) (w : World) (hM : Star F w) :
    Calls Try.prog 14 #[.string ⟨s0.toArray⟩] w fun r w' => r = .returned (.bool true) ∧ Star F w' := by
  have k1 := cut20g_len s0
  have H1 := cut20g_any s0
  generalize cut20g s0 = s at k1 H1
  have HC1 := Lib.hid H1
  clear H1
  have hTl := gTab_len s
  have hTb : ∀ x ∈ gTab s, x < 18446744073709551616 := fun x hx => by
    obtain ⟨i, _, rfl⟩ := List.mem_map.1 hx
    exact gOne_lt _ _
  have HN1 : ∀ {L : List SProp} (w : World), Star L w → Calls Try.prog 46 #[.string ⟨s.toArray⟩] w fun r w' => ∃ g, r = .returned (.pointer (some ⟨g, 0, none⟩)) ∧ Star (tabE g (gTab s) :: L) w' := fun w hM => gnew_star s (by omega) w hM
  have HN2 : ∀ {L : List SProp} (w : World), Star L w → Calls Try.prog 55 #[.string ⟨s.toArray⟩] w fun r w' => ∃ A c, r = .returned (.slice A 256 c) ∧ Star (rowE 1 A 256 (uvs (gTab s)) :: L) w' := fun w hM => rtable_star s (by omega) w hM
  generalize gTab s = T at hTl hTb HN1 HN2
  have HTL := Lib.hid hTl
  have HTB := Lib.hid hTb
  clear hTl hTb
  go_enter Try.func14, Try.ntmps14
  go_wp2_with (first | (go_at_call 15; have hM0 := hM; clear hM; (first | (with_reducible refine (starq (HC1.out _) hM0).mono ?_) | fail); clear hM0; rintro _ w ⟨rfl, hM⟩) | (go_at_call 45; have hM0 := hM; clear hM; (first | (with_reducible refine (awake07 _ hM0).mono ?_) | fail); clear hM0; rintro _ w ⟨rfl, hM⟩) | (go_at_call 46; have hM0 := hM; clear hM; (first | (with_reducible refine (HN1 _ hM0).mono ?_) | fail); clear hM0; rintro _ w ⟨g, rfl, hM⟩) | (go_at_call 55; have hM0 := hM; clear hM; (first | (with_reducible refine (HN2 _ hM0).mono ?_) | fail); clear hM0; rintro _ w ⟨A, c, rfl, hM⟩))
  obtain ⟨ad, rfl⟩ : ∃ ad, A = some ad := by
    have hr : Rd w 1 A 256 (uvs T) := hM.head
    obtain ⟨ad, h, _⟩ := hr.2 (by omega)
    exact ⟨ad, h⟩
  go_loopw [17] (fun i wr => ∃ k : Nat, k ≤ 256 ∧ i = .int .i64 k ∧ Star (rowE 1 (some ad) 256 (uvs T) :: tabE g T :: F) wr) (fun i _ => 256 - (intOf i).toNat)
  case atStart => exact ⟨0, by omega, rfl, hM⟩
  case round =>
    clear hM
    obtain ⟨k, hk, rfl, hM⟩ := hrel
    by_cases hlt : k < 256
    · obtain ⟨x, hx⟩ : ∃ x, T[k]? = some x := ⟨_, List.getElem?_eq_getElem (by rw [HTL.out]; exact hlt)⟩
      have hv := uvs_at hx
      clear hx
      have hR1 : Rd wr 1 (some ad) 256 (uvs T) := hM.head
      have hR2 : Rd wr 1 (some ⟨g, 0, none⟩) 256 (uvs T) := hM.tail.head
      go_wp2_with (first | (refine BigFrame.wpList_want (by rfl) fun K hK => ws_rowload rfl rfl hR1 hv (by kernel_rfl) (hK _ _ ?_); clear hK K) | (refine BigFrame.wpList_want (by rfl) fun K hK => ws_rowload0 rfl rfl hR2 hv (by kernel_rfl) (hK _ _ ?_); clear hK K))
      go_roundw
      case rel => exact ⟨k + 1, by omega, by go_num, hM⟩
      case measure => simp [intOf]; omega
    · obtain rfl : k = 256 := by omega
      go_wp2_with (first | (go_at_call 56; have hM0 := hM; clear hM; (first | (with_reducible refine (gname_star g T HTL.out HTB.out _ hM0 (by (repeat (first | assumption | (with_reducible exact List.mem_cons_self) | apply List.mem_cons_of_mem)); first | done | fail)).mono ?_) | fail); clear hM0; rintro _ w ⟨rfl, hM⟩) | (go_at_call 57; have hM0 := hM; clear hM; (first | (with_reducible refine (rname_star T (some ad) c HTL.out HTB.out _ hM0 (by (repeat (first | assumption | (with_reducible exact List.mem_cons_self) | apply List.mem_cons_of_mem)); first | done | fail)).mono ?_) | fail); clear hM0; rintro _ w ⟨rfl, hM⟩))
      go_ret
      exact ⟨rfl, hM.sel (by repeat (first | (with_reducible exact Sel.refl) | (with_reducible exact Take.head) | (with_reducible apply Take.tail) | (with_reducible apply Sel.cons) | (with_reducible apply Sel.drop)))⟩
end Go.Proofs.Ytbnencchfgnbjaa
