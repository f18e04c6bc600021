/- What the laws share, part 3 (MrA, MrB, MrC, MrT). No condition but those that each theorem names. -/
import Derived.Test.YtbejifbiffeamaaU2
set_option linter.unusedSimpArgs false
set_option linter.unusedVariables false
namespace Go.Proofs.Ytbejifbiffeamaa
open Go.RowKit
attribute [local go_sem] extract_mid extract_drop bget bsize wrap64_u8 i64_u8 u64_u8 bappend
/-- A packet of the reference's: to whom, from whom, what. -/
abbrev RP := Int × Int × List UInt8
def rpV (p : RP) : List Value := [.int .i64 p.1, .int .i64 p.2.1, .string ⟨p.2.2.toArray⟩]
def rps (l : List RP) : List Value := l.flatMap rpV
abbrev rmV (A : Option Addr) (n c : Nat) (B : Option Addr) (m d : Nat) (lo : Int) : Array Value := #[.slice A n c, .slice B m d, .int .i64 lo]
theorem rps_at {l : List RP} {i : Nat} {p : RP} (h : l[i]? = some p) : ∀ q v, (rpV p)[q]? = some v → (rps l)[i * 3 + q]? = some v := fun q v hv => flat_get rpV 3 l (fun _ _ => rfl) i p h q v hv
theorem rps_one (l : List RP) : ∀ u ∈ rps l, u.oneCell' = true := fun u hu => by
  obtain ⟨p, _, hp⟩ := List.mem_flatMap.1 hu
  simp only [rpV, List.mem_cons, List.not_mem_nil, or_false] at hp
  rcases hp with rfl | rfl | rfl <;> rfl
/-- How many of a source; where the i-th lies. -/
def rmine (t k : Int) (p : RP) : Bool := decide (p.1 = t) && decide (p.2.1 = k)
def rcount (t k : Int) : List RP → Nat
  | [] => 0
  | p :: l => rcount t k l + (if rmine t k p then 1 else 0)
theorem rcount_app (t k : Int) (a b : List RP) : rcount t k (a ++ b) = rcount t k a + rcount t k b := by
  induction a with
  | nil => simp [rcount]
  | cons x xs ih => simp only [List.cons_append, rcount, ih]; omega
theorem rcount_snoc {t k : Int} {l : List RP} {i : Nat} {p : RP} (h : l[i]? = some p) : rcount t k (l.take (i + 1)) = rcount t k (l.take i) + (if rmine t k p then 1 else 0) := by
  have hi := (List.getElem?_eq_some_iff.1 h).1
  have e : l[i] = p := (List.getElem?_eq_some_iff.1 h).2
  rw [List.take_succ_eq_append_getElem hi, rcount_app, e]
  simp [rcount]
def rfind (t k : Int) : Int → Nat → List RP → Int
  | _, _, [] => -1
  | i, j, p :: l => if rmine t k p then (if i = 0 then (j : Int) else rfind t k (i - 1) (j + 1) l) else rfind t k i (j + 1) l
section
variable {F : List SProp} {A B : Option Addr} {n c m d : Nat} {lo : Int} {L : List RP} {la : List Int}
set_option maxRecDepth 100000 in
theorem in_rm (i : Int) {b : Bool} (hb : decide (0 ≤ i ∧ i < m) = b) (w : World) (hM : Star F w) :
    Calls Try.prog 70 #[.agg (rmV A n c B m d lo), .int .i64 i] w fun r w' => r = .returned (.bool b) ∧ Star F w' := by
  by_cases h0 : 0 ≤ i
  · have hb2 : decide (i < (m : Int)) = b := by rw [← hb, decide_eq_decide]; exact ⟨fun h => ⟨h0, h⟩, fun h => h.2⟩
    clear hb
    go_enter Try.func70, Try.ntmps70
    go_wp2_with (first | (first | ((with_reducible refine at_box' ?_); (have hM0 := hM; clear hM; refine BigFrame.wpList_want (by rfl) fun K hK => ws_box hM0 rfl rfl (cs := rmV A n c B m d lo) rfl (fun g w hM => hK _ _ ?_); clear hM0 hK K)) | fail) | (first | ((with_reducible refine at_load' ?_); (refine BigFrame.wpList_want (by rfl) fun K hK => ws_load1 hM rfl rfl (by (repeat (first | assumption | (with_reducible exact mZ) | apply mS)); first | done | fail) (by first | rfl | assumption) (by decide +kernel) (hK _ _ ?_); clear hK K)) | fail))
    go_ret
    exact ⟨rfl, hM.tail⟩
  · obtain rfl : b = false := by rw [← hb, decide_eq_false]; omega
    have h1 : decide (0 ≤ i) = false := by simp; omega
    clear hb
    go_enter Try.func70, Try.ntmps70
    go_wp2_with (first | (first | ((with_reducible refine at_box' ?_); (have hM0 := hM; clear hM; refine BigFrame.wpList_want (by rfl) fun K hK => ws_box hM0 rfl rfl (cs := rmV A n c B m d lo) rfl (fun g w hM => hK _ _ ?_); clear hM0 hK K)) | fail) | (first | ((with_reducible refine at_load' ?_); (refine BigFrame.wpList_want (by rfl) fun K hK => ws_load1 hM rfl rfl (by (repeat (first | assumption | (with_reducible exact mZ) | apply mS)); first | done | fail) (by first | rfl | assumption) (by decide +kernel) (hK _ _ ?_); clear hK K)) | fail))
    go_ret
    exact ⟨rfl, hM.tail⟩
theorem info_rp : (Try.prog.info? 85).map (fun i => i.zero) = some (some (.agg #[.int .i64 0, .int .i64 0, .string ByteArray.empty])) := by kernel_rfl
set_option maxRecDepth 100000 in
set_option maxHeartbeats 4000000 in
theorem waits_rm (hn : L.length = n) (hn2 : n ≤ 1000000) (t k : Int) (w : World) (hM : Star F w) (hL : rowE 3 A n (rps L) ∈ F) :
    Calls Try.prog 41 #[.agg (rmV A n c B m d lo), .int .i64 t, .int .i64 k] w fun r w' => r = .returned (.int .i64 (rcount t k L : Nat)) ∧ Star F w' := by
  have HN := Lib.hid hn
  clear hn
  go_enter Try.func41, Try.ntmps41
  go_wp2_with (first | (first | ((with_reducible refine at_box' ?_); (have hM0 := hM; clear hM; refine BigFrame.wpList_want (by rfl) fun K hK => ws_box hM0 rfl rfl (cs := rmV A n c B m d lo) rfl (fun g w hM => hK _ _ ?_); clear hM0 hK K)) | fail) | (first | ((with_reducible refine at_load' ?_); (refine BigFrame.wpList_want (by rfl) fun K hK => ws_load1 hM rfl rfl (by (repeat (first | assumption | (with_reducible exact mZ) | apply mS)); first | done | fail) (by first | rfl | assumption) (by decide +kernel) (hK _ _ ?_); clear hK K)) | fail))
  go_loopw [7, 13] (fun v i wr => ∃ (j a : Nat), i = .int .i64 j ∧ v = .int .i64 a ∧ j ≤ n ∧ Hid (rcount t k (L.take j) = a) ∧ a ≤ j ∧ Star F wr) (fun _ i _ => n - (intOf i).toNat)
  case atStart => exact ⟨0, 0, rfl, rfl, by omega, rfl, by omega, hM.tail⟩
  case round =>
    clear hM
    obtain ⟨j, a, rfl, rfl, hj, HA, haj, hM⟩ := hrel
    by_cases hjn : j < n
    · have hjI : (j : Int) < (n : Int) := by omega
      obtain ⟨p, hp⟩ : ∃ p, L[j]? = some p := ⟨_, List.getElem?_eq_getElem (by rw [HN.out]; exact hjn)⟩
      obtain ⟨p1, p2, p3⟩ := p
      have HP : Hid (∀ q v, ([.int .i64 p1, .int .i64 p2, .string ⟨p3.toArray⟩] : List Value)[q]? = some v → (rps L)[j * 3 + q]? = some v) := rps_at hp
      have HSN := Lib.hid (rcount_snoc (t := t) (k := k) hp)
      obtain ⟨ad, rfl⟩ : ∃ ad, A = some ad := by
        obtain ⟨ad, e, _⟩ := (hM.row (A := A) (n := n) (xs := rps L) (by (repeat (first | assumption | (with_reducible exact mZ) | apply mS)); first | done | fail)).2 (by omega)
        exact ⟨ad, e⟩
      clear hp
      by_cases h1 : p1 = t
      · by_cases h2 : p2 = k
        · subst h1 h2
          have hc : Hid (rcount p1 p2 (L.take (j + 1)) = a + 1) := by show _ = _; rw [HSN.out, HA.out]; simp [rmine]
          clear HSN
          go_wp2_with (first | ((with_reducible refine at_load' ?_); refine BigFrame.wpList_want (by rfl) fun K hK => ws_of_ex (ex_rowload_row (k := j) rfl rfl (hM.row (A := some ad) (n := n) (xs := rps L) (by (repeat (first | assumption | (with_reducible exact mZ) | apply mS)); first | done | fail)) [.int .i64 p1, .int .i64 p2, .string ⟨p3.toArray⟩] HP.out rfl hjn (by decide +kernel)) (hK _ _ ?_); clear hK K) | (first | ((with_reducible refine at_alloc' ?_); (have hM0 := hM; clear hM; refine BigFrame.wpList_want (by rfl) fun K hK => ws_alloc hM0 (t := 85) rfl #[.int .i64 0, .int .i64 0, .string ByteArray.empty] info_rp (fun g5 w hM => hK _ _ ?_); clear hM0 hK K)) | fail) | (first | ((with_reducible refine at_store' ?_); (have hM0 := hM; clear hM; refine BigFrame.wpList_want (by rfl) fun K hK => ws_store hM0 rfl rfl rfl (by (repeat (first | (with_reducible exact Take.head) | apply Take.tail)); first | done | fail) (n := 3) (by rfl) (by rfl) (by kernel_rfl) (by simp [Value.oneCell']) (fun w hM => hK _ _ ?_); clear hM0 hK K)) | fail) | (first | ((with_reducible refine at_load' ?_); (refine BigFrame.wpList_want (by rfl) fun K hK => ws_load1 hM rfl rfl (by (repeat (first | assumption | (with_reducible exact mZ) | apply mS)); first | done | fail) (by first | rfl | assumption) (by decide +kernel) (hK _ _ ?_); clear hK K)) | fail))
          go_roundw
          case rel => exact ⟨j + 1, a + 1, by go_num, by go_num, by omega, hc, by omega, hM.sel (by repeat (first | (with_reducible exact Sel.refl) | (with_reducible exact Take.head) | (with_reducible apply Take.tail) | (with_reducible apply Sel.cons) | (with_reducible apply Sel.drop)))⟩
          case measure => simp [intOf]; omega
        · have hc : Hid (rcount t k (L.take (j + 1)) = a) := by show _ = _; rw [HSN.out, HA.out]; simp [rmine, h2]
          have d1 : (p2 == k) = false := by simpa using h2
          have d2 : decide (p2 = k) = false := by simpa using h2
          subst h1
          clear HSN h2
          go_wp2_with (first | ((with_reducible refine at_load' ?_); refine BigFrame.wpList_want (by rfl) fun K hK => ws_of_ex (ex_rowload_row (k := j) rfl rfl (hM.row (A := some ad) (n := n) (xs := rps L) (by (repeat (first | assumption | (with_reducible exact mZ) | apply mS)); first | done | fail)) [.int .i64 p1, .int .i64 p2, .string ⟨p3.toArray⟩] HP.out rfl hjn (by decide +kernel)) (hK _ _ ?_); clear hK K) | (first | ((with_reducible refine at_alloc' ?_); (have hM0 := hM; clear hM; refine BigFrame.wpList_want (by rfl) fun K hK => ws_alloc hM0 (t := 85) rfl #[.int .i64 0, .int .i64 0, .string ByteArray.empty] info_rp (fun g5 w hM => hK _ _ ?_); clear hM0 hK K)) | fail) | (first | ((with_reducible refine at_store' ?_); (have hM0 := hM; clear hM; refine BigFrame.wpList_want (by rfl) fun K hK => ws_store hM0 rfl rfl rfl (by (repeat (first | (with_reducible exact Take.head) | apply Take.tail)); first | done | fail) (n := 3) (by rfl) (by rfl) (by kernel_rfl) (by simp [Value.oneCell']) (fun w hM => hK _ _ ?_); clear hM0 hK K)) | fail) | (first | ((with_reducible refine at_load' ?_); (refine BigFrame.wpList_want (by rfl) fun K hK => ws_load1 hM rfl rfl (by (repeat (first | assumption | (with_reducible exact mZ) | apply mS)); first | done | fail) (by first | rfl | assumption) (by decide +kernel) (hK _ _ ?_); clear hK K)) | fail))
          go_roundw
          case rel => exact ⟨j + 1, a, by go_num, rfl, by omega, hc, by omega, hM.sel (by repeat (first | (with_reducible exact Sel.refl) | (with_reducible exact Take.head) | (with_reducible apply Take.tail) | (with_reducible apply Sel.cons) | (with_reducible apply Sel.drop)))⟩
          case measure => simp [intOf]; omega
      · have hc : Hid (rcount t k (L.take (j + 1)) = a) := by show _ = _; rw [HSN.out, HA.out]; simp [rmine, h1]
        have d1 : (p1 == t) = false := by simpa using h1
        have d2 : decide (p1 = t) = false := by simpa using h1
        clear HSN h1
        go_wp2_with (first | ((with_reducible refine at_load' ?_); refine BigFrame.wpList_want (by rfl) fun K hK => ws_of_ex (ex_rowload_row (k := j) rfl rfl (hM.row (A := some ad) (n := n) (xs := rps L) (by (repeat (first | assumption | (with_reducible exact mZ) | apply mS)); first | done | fail)) [.int .i64 p1, .int .i64 p2, .string ⟨p3.toArray⟩] HP.out rfl hjn (by decide +kernel)) (hK _ _ ?_); clear hK K) | (first | ((with_reducible refine at_alloc' ?_); (have hM0 := hM; clear hM; refine BigFrame.wpList_want (by rfl) fun K hK => ws_alloc hM0 (t := 85) rfl #[.int .i64 0, .int .i64 0, .string ByteArray.empty] info_rp (fun g5 w hM => hK _ _ ?_); clear hM0 hK K)) | fail) | (first | ((with_reducible refine at_store' ?_); (have hM0 := hM; clear hM; refine BigFrame.wpList_want (by rfl) fun K hK => ws_store hM0 rfl rfl rfl (by (repeat (first | (with_reducible exact Take.head) | apply Take.tail)); first | done | fail) (n := 3) (by rfl) (by rfl) (by kernel_rfl) (by simp [Value.oneCell']) (fun w hM => hK _ _ ?_); clear hM0 hK K)) | fail) | (first | ((with_reducible refine at_load' ?_); (refine BigFrame.wpList_want (by rfl) fun K hK => ws_load1 hM rfl rfl (by (repeat (first | assumption | (with_reducible exact mZ) | apply mS)); first | done | fail) (by first | rfl | assumption) (by decide +kernel) (hK _ _ ?_); clear hK K)) | fail))
        go_roundw
        case rel => exact ⟨j + 1, a, by go_num, rfl, by omega, hc, by omega, hM.sel (by repeat (first | (with_reducible exact Sel.refl) | (with_reducible exact Take.head) | (with_reducible apply Take.tail) | (with_reducible apply Sel.cons) | (with_reducible apply Sel.drop)))⟩
        case measure => simp [intOf]; omega
    · obtain rfl : n = j := by omega
      go_wp2_with fail
      go_ret
      have e := HA.out
      rw [List.take_of_length_le (by rw [HN.out]; exact Nat.le_refl _)] at e
      rw [e]
      exact ⟨rfl, hM⟩
set_option maxRecDepth 100000 in
set_option maxHeartbeats 4000000 in
theorem find_rm (hn : L.length = n) (hn2 : n ≤ 1000000) (t k i : Int) (w : World) (hM : Star F w) (hL : rowE 3 A n (rps L) ∈ F) :
    Calls Try.prog 71 #[.agg (rmV A n c B m d lo), .int .i64 t, .int .i64 k, .int .i64 i] w fun r w' => r = .returned (.int .i64 (rfind t k i 0 L)) ∧ Star F w' := by
  have HN := Lib.hid hn
  clear hn
  obtain ⟨v, hv⟩ : ∃ v, rfind t k i 0 L = v := ⟨_, rfl⟩
  rw [hv]
  have HV := Lib.hid hv
  clear hv
  go_enter Try.func71, Try.ntmps71
  go_wp2_with (first | (first | ((with_reducible refine at_box' ?_); (have hM0 := hM; clear hM; refine BigFrame.wpList_want (by rfl) fun K hK => ws_box hM0 rfl rfl (cs := rmV A n c B m d lo) rfl (fun g w hM => hK _ _ ?_); clear hM0 hK K)) | fail) | (first | ((with_reducible refine at_load' ?_); (refine BigFrame.wpList_want (by rfl) fun K hK => ws_load1 hM rfl rfl (by (repeat (first | assumption | (with_reducible exact mZ) | apply mS)); first | done | fail) (by first | rfl | assumption) (by decide +kernel) (hK _ _ ?_); clear hK K)) | fail))
  go_loopw [9, 15] (fun u x wr => ∃ (j a : Nat), x = .int .i64 j ∧ u = .int .i64 a ∧ j ≤ n ∧ Hid (rfind t k (i - a) j (L.drop j) = v) ∧ a ≤ j ∧ Star F wr) (fun _ x _ => n - (intOf x).toNat)
  case atStart => exact ⟨0, 0, rfl, rfl, by omega, by show rfind t k (i - 0) 0 L = v; rw [Int.sub_zero]; exact HV.out, by omega, hM.tail⟩
  case round =>
    clear hM
    obtain ⟨j, a, rfl, rfl, hj, HA, haj, hM⟩ := hrel
    by_cases hjn : j < n
    · have hjI : (j : Int) < (n : Int) := by omega
      obtain ⟨p, hp⟩ : ∃ p, L[j]? = some p := ⟨_, List.getElem?_eq_getElem (by rw [HN.out]; exact hjn)⟩
      obtain ⟨p1, p2, p3⟩ := p
      have HP : Hid (∀ q v, ([.int .i64 p1, .int .i64 p2, .string ⟨p3.toArray⟩] : List Value)[q]? = some v → (rps L)[j * 3 + q]? = some v) := rps_at hp
      have hdr : L.drop j = (p1, p2, p3) :: L.drop (j + 1) := by
        rw [List.drop_eq_getElem_cons (by rw [HN.out]; exact hjn)]
        rw [(List.getElem?_eq_some_iff.1 hp).2]
      have HF : Hid ((if rmine t k (p1, p2, p3) then (if i - a = 0 then (j : Int) else rfind t k (i - a - 1) (j + 1) (L.drop (j + 1))) else rfind t k (i - a) (j + 1) (L.drop (j + 1))) = v) := by
        have := HA.out
        rw [hdr] at this
        exact this
      obtain ⟨ad, rfl⟩ : ∃ ad, A = some ad := by
        obtain ⟨ad, e, _⟩ := (hM.row (A := A) (n := n) (xs := rps L) (by (repeat (first | assumption | (with_reducible exact mZ) | apply mS)); first | done | fail)).2 (by omega)
        exact ⟨ad, e⟩
      clear hp hdr HA HV
      by_cases h1 : p1 = t
      · by_cases h2 : p2 = k
        · subst h1 h2
          by_cases h3 : (a : Int) = i
          · subst h3
            have hc : Hid (v = (j : Int)) := by
              have := HF.out
              rw [if_pos (by simp [rmine]), if_pos (by omega)] at this
              exact this.symm
            clear HF
            go_wp2_with (first | ((with_reducible refine at_load' ?_); refine BigFrame.wpList_want (by rfl) fun K hK => ws_of_ex (ex_rowload_row (k := j) rfl rfl (hM.row (A := some ad) (n := n) (xs := rps L) (by (repeat (first | assumption | (with_reducible exact mZ) | apply mS)); first | done | fail)) [.int .i64 p1, .int .i64 p2, .string ⟨p3.toArray⟩] HP.out rfl hjn (by decide +kernel)) (hK _ _ ?_); clear hK K) | (first | ((with_reducible refine at_alloc' ?_); (have hM0 := hM; clear hM; refine BigFrame.wpList_want (by rfl) fun K hK => ws_alloc hM0 (t := 85) rfl #[.int .i64 0, .int .i64 0, .string ByteArray.empty] info_rp (fun g5 w hM => hK _ _ ?_); clear hM0 hK K)) | fail) | (first | ((with_reducible refine at_store' ?_); (have hM0 := hM; clear hM; refine BigFrame.wpList_want (by rfl) fun K hK => ws_store hM0 rfl rfl rfl (by (repeat (first | (with_reducible exact Take.head) | apply Take.tail)); first | done | fail) (n := 3) (by rfl) (by rfl) (by kernel_rfl) (by simp [Value.oneCell']) (fun w hM => hK _ _ ?_); clear hM0 hK K)) | fail) | (first | ((with_reducible refine at_load' ?_); (refine BigFrame.wpList_want (by rfl) fun K hK => ws_load1 hM rfl rfl (by (repeat (first | assumption | (with_reducible exact mZ) | apply mS)); first | done | fail) (by first | rfl | assumption) (by decide +kernel) (hK _ _ ?_); clear hK K)) | fail))
            go_ret
            rw [hc.out]
            exact ⟨rfl, hM.sel (by repeat (first | (with_reducible exact Sel.refl) | (with_reducible exact Take.head) | (with_reducible apply Take.tail) | (with_reducible apply Sel.cons) | (with_reducible apply Sel.drop)))⟩
          · have hc : Hid (rfind p1 p2 (i - ((a + 1 : Nat) : Int)) (j + 1) (L.drop (j + 1)) = v) := by
              have := HF.out
              rw [if_pos (by simp [rmine]), if_neg (by omega)] at this
              have e : i - ((a + 1 : Nat) : Int) = i - a - 1 := by omega
              rw [e]
              exact this
            have d1 : ((a : Int) == i) = false := by simpa using h3
            have d2 : decide ((a : Int) = i) = false := by simpa using h3
            clear HF h3
            go_wp2_with (first | ((with_reducible refine at_load' ?_); refine BigFrame.wpList_want (by rfl) fun K hK => ws_of_ex (ex_rowload_row (k := j) rfl rfl (hM.row (A := some ad) (n := n) (xs := rps L) (by (repeat (first | assumption | (with_reducible exact mZ) | apply mS)); first | done | fail)) [.int .i64 p1, .int .i64 p2, .string ⟨p3.toArray⟩] HP.out rfl hjn (by decide +kernel)) (hK _ _ ?_); clear hK K) | (first | ((with_reducible refine at_alloc' ?_); (have hM0 := hM; clear hM; refine BigFrame.wpList_want (by rfl) fun K hK => ws_alloc hM0 (t := 85) rfl #[.int .i64 0, .int .i64 0, .string ByteArray.empty] info_rp (fun g5 w hM => hK _ _ ?_); clear hM0 hK K)) | fail) | (first | ((with_reducible refine at_store' ?_); (have hM0 := hM; clear hM; refine BigFrame.wpList_want (by rfl) fun K hK => ws_store hM0 rfl rfl rfl (by (repeat (first | (with_reducible exact Take.head) | apply Take.tail)); first | done | fail) (n := 3) (by rfl) (by rfl) (by kernel_rfl) (by simp [Value.oneCell']) (fun w hM => hK _ _ ?_); clear hM0 hK K)) | fail) | (first | ((with_reducible refine at_load' ?_); (refine BigFrame.wpList_want (by rfl) fun K hK => ws_load1 hM rfl rfl (by (repeat (first | assumption | (with_reducible exact mZ) | apply mS)); first | done | fail) (by first | rfl | assumption) (by decide +kernel) (hK _ _ ?_); clear hK K)) | fail))
            go_roundw
            case rel => exact ⟨j + 1, a + 1, by go_num, by go_num, by omega, hc, by omega, hM.sel (by repeat (first | (with_reducible exact Sel.refl) | (with_reducible exact Take.head) | (with_reducible apply Take.tail) | (with_reducible apply Sel.cons) | (with_reducible apply Sel.drop)))⟩
            case measure => simp [intOf]; omega
        · have hc : Hid (rfind t k (i - a) (j + 1) (L.drop (j + 1)) = v) := by
            have := HF.out
            rw [if_neg (by simp [rmine, h2])] at this
            exact this
          have d1 : (p2 == k) = false := by simpa using h2
          have d2 : decide (p2 = k) = false := by simpa using h2
          subst h1
          clear HF h2
          go_wp2_with (first | ((with_reducible refine at_load' ?_); refine BigFrame.wpList_want (by rfl) fun K hK => ws_of_ex (ex_rowload_row (k := j) rfl rfl (hM.row (A := some ad) (n := n) (xs := rps L) (by (repeat (first | assumption | (with_reducible exact mZ) | apply mS)); first | done | fail)) [.int .i64 p1, .int .i64 p2, .string ⟨p3.toArray⟩] HP.out rfl hjn (by decide +kernel)) (hK _ _ ?_); clear hK K) | (first | ((with_reducible refine at_alloc' ?_); (have hM0 := hM; clear hM; refine BigFrame.wpList_want (by rfl) fun K hK => ws_alloc hM0 (t := 85) rfl #[.int .i64 0, .int .i64 0, .string ByteArray.empty] info_rp (fun g5 w hM => hK _ _ ?_); clear hM0 hK K)) | fail) | (first | ((with_reducible refine at_store' ?_); (have hM0 := hM; clear hM; refine BigFrame.wpList_want (by rfl) fun K hK => ws_store hM0 rfl rfl rfl (by (repeat (first | (with_reducible exact Take.head) | apply Take.tail)); first | done | fail) (n := 3) (by rfl) (by rfl) (by kernel_rfl) (by simp [Value.oneCell']) (fun w hM => hK _ _ ?_); clear hM0 hK K)) | fail) | (first | ((with_reducible refine at_load' ?_); (refine BigFrame.wpList_want (by rfl) fun K hK => ws_load1 hM rfl rfl (by (repeat (first | assumption | (with_reducible exact mZ) | apply mS)); first | done | fail) (by first | rfl | assumption) (by decide +kernel) (hK _ _ ?_); clear hK K)) | fail))
          go_roundw
          case rel => exact ⟨j + 1, a, by go_num, rfl, by omega, hc, by omega, hM.sel (by repeat (first | (with_reducible exact Sel.refl) | (with_reducible exact Take.head) | (with_reducible apply Take.tail) | (with_reducible apply Sel.cons) | (with_reducible apply Sel.drop)))⟩
          case measure => simp [intOf]; omega
      · have hc : Hid (rfind t k (i - a) (j + 1) (L.drop (j + 1)) = v) := by
          have := HF.out
          rw [if_neg (by simp [rmine, h1])] at this
          exact this
        have d1 : (p1 == t) = false := by simpa using h1
        have d2 : decide (p1 = t) = false := by simpa using h1
        clear HF h1
        go_wp2_with (first | ((with_reducible refine at_load' ?_); refine BigFrame.wpList_want (by rfl) fun K hK => ws_of_ex (ex_rowload_row (k := j) rfl rfl (hM.row (A := some ad) (n := n) (xs := rps L) (by (repeat (first | assumption | (with_reducible exact mZ) | apply mS)); first | done | fail)) [.int .i64 p1, .int .i64 p2, .string ⟨p3.toArray⟩] HP.out rfl hjn (by decide +kernel)) (hK _ _ ?_); clear hK K) | (first | ((with_reducible refine at_alloc' ?_); (have hM0 := hM; clear hM; refine BigFrame.wpList_want (by rfl) fun K hK => ws_alloc hM0 (t := 85) rfl #[.int .i64 0, .int .i64 0, .string ByteArray.empty] info_rp (fun g5 w hM => hK _ _ ?_); clear hM0 hK K)) | fail) | (first | ((with_reducible refine at_store' ?_); (have hM0 := hM; clear hM; refine BigFrame.wpList_want (by rfl) fun K hK => ws_store hM0 rfl rfl rfl (by (repeat (first | (with_reducible exact Take.head) | apply Take.tail)); first | done | fail) (n := 3) (by rfl) (by rfl) (by kernel_rfl) (by simp [Value.oneCell']) (fun w hM => hK _ _ ?_); clear hM0 hK K)) | fail) | (first | ((with_reducible refine at_load' ?_); (refine BigFrame.wpList_want (by rfl) fun K hK => ws_load1 hM rfl rfl (by (repeat (first | assumption | (with_reducible exact mZ) | apply mS)); first | done | fail) (by first | rfl | assumption) (by decide +kernel) (hK _ _ ?_); clear hK K)) | fail))
        go_roundw
        case rel => exact ⟨j + 1, a, by go_num, rfl, by omega, hc, by omega, hM.sel (by repeat (first | (with_reducible exact Sel.refl) | (with_reducible exact Take.head) | (with_reducible apply Take.tail) | (with_reducible apply Sel.cons) | (with_reducible apply Sel.drop)))⟩
        case measure => simp [intOf]; omega
    · obtain rfl : n = j := by omega
      have e : v = -1 := by
        have := HA.out
        rw [List.drop_of_length_le (by rw [HN.out]; exact Nat.le_refl _)] at this
        exact this.symm
      subst e
      go_wp2_with fail
      go_ret
      exact ⟨rfl, hM⟩
end
end Go.Proofs.Ytbejifbiffeamaa
set_option linter.unusedSimpArgs false
set_option linter.unusedVariables false
namespace Go.Proofs.Ytbejifbiffeamaa
open Go.RowKit
attribute [local go_sem] extract_mid extract_drop bget bsize wrap64_u8 i64_u8 u64_u8 bappend
theorem info_rmz : (Try.prog.info? 77).map (fun i => i.zero) = some (some (.agg #[.slice none 0 0, .slice none 0 0, .int .i64 0])) := by kernel_rfl
theorem ivs_one1 (l : List Int) : ∀ u ∈ ivs l, u.oneCell' = true := fun u hu => by obtain ⟨s, _, rfl⟩ := List.mem_map.1 hu; rfl
theorem ivs_app1 (a b : List Int) : ivs (a ++ b) = ivs a ++ ivs b := by simp [ivs]
theorem rps_app (a b : List RP) : rps (a ++ b) = rps a ++ rps b := by unfold rps; rw [List.flatMap_append]
theorem Star.dup_row {L : List SProp} {w : World} {size n : Nat} {A : Option Addr} {xs : List Value} (h : Star L w) (hx : rowE size A n xs ∈ L) : Star (rowE size A n xs :: L) w := h.view hx rfl rfl (fun _ hb => hb) (h.all _ hx)
section
variable {F : List SProp} {A B : Option Addr} {n c m d : Nat} {lo : Int} {L : List RP} {la : List Int}
set_option maxRecDepth 100000 in
set_option maxHeartbeats 4000000 in
theorem new_rm {x : Int} (N : Nat) (hx : x = N) (hN : N ≤ 64) (w : World) (hM : Star F w) :
    Calls Try.prog 39 #[.int .i64 x] w fun r w' => ∃ B d, r = .returned (.agg (rmV none 0 0 B N d 0)) ∧ N ≤ d ∧ Star (rowE 1 B N (ivs (List.replicate N (-1))) :: F) w' := by
  subst hx
  have tok1 : Hid True := trivial
  have HO := Lib.hid ivs_one1
  go_enter Try.func39, Try.ntmps39
  go_wp2_with (first | (have _t := tok1; (first | ((with_reducible refine at_alloc' ?_); (have hM0 := hM; clear hM; refine BigFrame.wpList_want (by rfl) fun K hK => ws_alloc hM0 (t := 77) rfl #[.slice none 0 0, .slice none 0 0, .int .i64 0] info_rmz (fun g2 w hM => hK _ _ ?_); clear hM0 hK K)) | fail); clear tok1) | (first | ((with_reducible refine at_alloc' ?_); (have hM0 := hM; clear hM; refine BigFrame.wpList_want (by rfl) fun K hK => ws_alloc hM0 (t := 77) rfl #[.slice none 0 0, .slice none 0 0, .int .i64 0] info_rmz (fun g3 w hM => hK _ _ ?_); clear hM0 hK K)) | fail) | (first | ((with_reducible refine at_store' ?_); (have hM0 := hM; clear hM; refine BigFrame.wpList_want (by rfl) fun K hK => ws_store hM0 rfl rfl rfl (by (repeat (first | (with_reducible exact Take.head) | apply Take.tail)); first | done | fail) (n := 3) (by rfl) (by rfl) (by kernel_rfl) (by simp [Value.oneCell']) (fun w hM => hK _ _ ?_); clear hM0 hK K)) | fail))
  have hM2 : Star (cellsE g3 77 (rmV none 0 0 none 0 0 0) :: ownE 3 1 none 0 0 (ivs []) :: cellsE g2 77 #[.slice none 0 0, .slice none 0 0, .int .i64 0] :: F) w := (hM.nilown 3 1).perm (List.Perm.swap _ _ _)
  clear hM
  have hM := hM2
  clear hM2
  go_loopw [4] (fun i wr => ∃ (j : Nat) (B : Option Addr) (d : Nat), i = .int .i64 j ∧ j ≤ N ∧ Star (cellsE g3 77 (rmV none 0 0 B j d 0) :: ownE 3 1 B j d (ivs (List.replicate j (-1))) :: cellsE g2 77 #[.slice none 0 0, .slice none 0 0, .int .i64 0] :: F) wr) (fun i _ => N - (intOf i).toNat)
  case atStart => exact ⟨0, none, 0, rfl, by omega, hM⟩
  case round =>
    clear hM
    obtain ⟨j, B, d, rfl, hj, hM⟩ := hrel
    by_cases hjn : j < N
    · have hjI : (j : Int) < (N : Int) := by omega
      have hj64 : (j : Int) < 64 := by omega
      go_wp2_with (first | (first | ((with_reducible refine at_load' ?_); (refine BigFrame.wpList_want (by rfl) fun K hK => ws_load1 hM rfl rfl (by (repeat (first | assumption | (with_reducible exact mZ) | apply mS)); first | done | fail) (by first | rfl | assumption) (by decide +kernel) (hK _ _ ?_); clear hK K)) | fail) | (first | ((with_reducible refine at_slice' ?_); (have hM0 := hM; clear hM; refine BigFrame.wpList_want (by rfl) fun K hK => ws_slice_row hM0 (n := 1) rfl 3 1 (.int .i64 0) [.int .i64 (-1)] Try.underlying23 (by kernel_rfl) rfl (by simp [Value.cells, iv, sv, bv]) (by rfl) (by decide) (cs := ivs [-1]) (by rfl) (fun g5 w hM => hK _ _ ?_); clear hM0 hK K)) | fail) | (first | ((with_reducible refine at_call' ?_); (have hM0 := hM; clear hM; refine BigFrame.wpList_want (by rfl) fun K hK => ws_append hM0 rfl rfl rfl 3 ((.int .i64 0)) 1 8 Try.underlying23 (by kernel_rfl) (by rfl) (by decide) (by (repeat (first | (with_reducible exact Take.head) | apply Take.tail)); first | done | fail) (by first | (apply Star.row hM0; (repeat (first | assumption | (with_reducible exact mZ) | apply mS)); done) | (apply Star.own hM0; (repeat (first | assumption | (with_reducible exact mZ) | apply mS)); done) | (apply Star.arr hM0; (focus ((repeat (first | assumption | (with_reducible exact mZ) | apply mS)); done)); assumption)) (HO.out _) ((by omega)) (fun A1 c1 w hM hnil => hK _ _ ?_); clear hM0 hK K)) | fail) | (first | ((with_reducible refine at_store' ?_); (have hM0 := hM; clear hM; refine BigFrame.wpList_want (by rfl) fun K hK => ws_store1 hM0 rfl rfl (by go_simp; rfl) (by first | rfl | assumption) (by (repeat (first | (with_reducible exact Take.head) | apply Take.tail)); first | done | fail) (by simp) (by kernel_rfl) (by simp only [List.setIfInBounds_toArray, List.set_cons_zero, List.set_cons_succ]; rfl) (fun w hM => hK _ _ ?_); clear hM0 hK K)) | fail))
      go_roundw
      case rel =>
        refine ⟨j + 1, A1, c1, rfl, by omega, ?_⟩
        have e : ivs (List.replicate (j + 1) (-1)) = ivs (List.replicate j (-1)) ++ ivs [-1] := by rw [List.replicate_succ', ivs_app1]
        rw [e]
        exact hM.sel (by repeat (first | (with_reducible exact Sel.refl) | (with_reducible exact Take.head) | (with_reducible apply Take.tail) | (with_reducible apply Sel.cons) | (with_reducible apply Sel.drop)))
      case measure => simp [intOf]; omega
    · obtain rfl : N = j := by omega
      have d1 : decide ((N : Int) < (N : Int)) = false := by simp
      go_wp2_with (first | (first | ((with_reducible refine at_load' ?_); (refine BigFrame.wpList_want (by rfl) fun K hK => ws_load hM rfl rfl (by (repeat (first | assumption | (with_reducible exact mZ) | apply mS)); first | done | fail) (n := 3) (by rfl) (by decide +kernel) (hK _ _ ?_); clear hK K)) | fail) | (first | ((with_reducible refine at_store' ?_); (have hM0 := hM; clear hM; refine BigFrame.wpList_want (by rfl) fun K hK => ws_store hM0 rfl rfl rfl (by (repeat (first | (with_reducible exact Take.head) | apply Take.tail)); first | done | fail) (n := 3) (by rfl) (by rfl) (by kernel_rfl) (by simp [Value.oneCell']) (fun w hM => hK _ _ ?_); clear hM0 hK K)) | fail))
      refine bodyPost_ret (results_row (P := Try.prog) (ty := 77) rfl _ _ g2 77 (rmV none 0 0 B N d 0) 3 rfl (hM.blk (by (repeat (first | assumption | (with_reducible exact mZ) | apply mS)); first | done | fail)) rfl (by decide +kernel)) rfl ?_
      have hM2 : Star (ownE 3 1 B N d (ivs (List.replicate N (-1))) :: F) w := hM.sel (by repeat (first | (with_reducible exact Sel.refl) | (with_reducible exact Take.head) | (with_reducible apply Take.tail) | (with_reducible apply Sel.cons) | (with_reducible apply Sel.drop)))
      have hcc : N ≤ d := by
        rcases hM2.head.2 with ⟨e1, h0⟩ | ⟨g, cap, cur, e1, _, _, h4, _⟩
        · omega
        · injection e1 with _ _ e1; omega
      exact ⟨B, d, rfl, hcc, hM2.freeze⟩
set_option maxRecDepth 100000 in
set_option maxHeartbeats 4000000 in
theorem send_rm_arg (k : Int) (x : List UInt8) (t : Int) (hb : ¬ ((0 ≤ t ∧ t < m) ∧ (0 ≤ k ∧ k < (m : Int)))) (w : World) (hM : Star F w) :
    Calls Try.prog 65 #[.agg (rmV A n c B m d lo), .int .i64 k, .string ⟨x.toArray⟩, .int .i64 t] w fun r w' => r = .returned (.tuple #[.agg (rmV A n c B m d lo), .int .i64 10]) ∧ Star F w' := by
  by_cases h1 : 0 ≤ t ∧ t < (m : Int)
  · have h2 : ¬ (0 ≤ k ∧ k < (m : Int)) := fun h => hb ⟨h1, h⟩
    have HI1 : Hid (∀ (L : List SProp) (w : World), Star L w → Calls Try.prog 70 #[.agg (rmV A n c B m d lo), .int .i64 t] w fun r w' => r = .returned (.bool true) ∧ Star L w') := fun L w hM => in_rm t (decide_eq_true h1) w hM
    have HI2 : Hid (∀ (L : List SProp) (w : World), Star L w → Calls Try.prog 70 #[.agg (rmV A n c B m d lo), .int .i64 k] w fun r w' => r = .returned (.bool false) ∧ Star L w') := fun L w hM => in_rm k (decide_eq_false h2) w hM
    clear hb h1 h2
    go_enter Try.func65, Try.ntmps65
    go_wp2_with (first | (first | ((with_reducible refine at_box' ?_); (have hM0 := hM; clear hM; refine BigFrame.wpList_want (by rfl) fun K hK => ws_box hM0 rfl rfl (cs := rmV A n c B m d lo) rfl (fun g4 w hM => hK _ _ ?_); clear hM0 hK K)) | fail) | (first | ((with_reducible refine at_alloc' ?_); (have hM0 := hM; clear hM; refine BigFrame.wpList_want (by rfl) fun K hK => ws_alloc hM0 (t := 77) rfl #[.slice none 0 0, .slice none 0 0, .int .i64 0] info_rmz (fun g8 w hM => hK _ _ ?_); clear hM0 hK K)) | fail) | (first | ((with_reducible refine at_load' ?_); (refine BigFrame.wpList_want (by rfl) fun K hK => ws_load hM rfl rfl (by (repeat (first | assumption | (with_reducible exact mZ) | apply mS)); first | done | fail) (n := 3) (by rfl) (by decide +kernel) (hK _ _ ?_); clear hK K)) | fail) | (first | ((with_reducible refine at_store' ?_); (have hM0 := hM; clear hM; refine BigFrame.wpList_want (by rfl) fun K hK => ws_store hM0 rfl rfl rfl (by (repeat (first | (with_reducible exact Take.head) | apply Take.tail)); first | done | fail) (n := 3) (by rfl) (by rfl) (by kernel_rfl) (by simp [Value.oneCell']) (fun w hM => hK _ _ ?_); clear hM0 hK K)) | fail) | (go_at_call 70; have hM0 := hM; clear hM; (first | (with_reducible refine (HI1.out _ _ hM0).mono ?_) | fail); clear hM0; rintro _ w ⟨rfl, hM⟩) | (go_at_call 70; have hM0 := hM; clear hM; (first | (with_reducible refine (HI2.out _ _ hM0).mono ?_) | fail); clear hM0; rintro _ w ⟨rfl, hM⟩))
    refine bodyPost_ret (results_row_tmp (P := Try.prog) (ty := 77) rfl _ _ g8 77 (rmV A n c B m d lo) 3 (.int .i64 10) rfl rfl (hM.blk (by (repeat (first | assumption | (with_reducible exact mZ) | apply mS)); first | done | fail)) rfl (by decide +kernel)) rfl ?_
    exact ⟨rfl, hM.sel (by repeat (first | (with_reducible exact Sel.refl) | (with_reducible exact Take.head) | (with_reducible apply Take.tail) | (with_reducible apply Sel.cons) | (with_reducible apply Sel.drop)))⟩
  · have HI1 : Hid (∀ (L : List SProp) (w : World), Star L w → Calls Try.prog 70 #[.agg (rmV A n c B m d lo), .int .i64 t] w fun r w' => r = .returned (.bool false) ∧ Star L w') := fun L w hM => in_rm t (decide_eq_false h1) w hM
    clear hb h1
    go_enter Try.func65, Try.ntmps65
    go_wp2_with (first | (first | ((with_reducible refine at_box' ?_); (have hM0 := hM; clear hM; refine BigFrame.wpList_want (by rfl) fun K hK => ws_box hM0 rfl rfl (cs := rmV A n c B m d lo) rfl (fun g4 w hM => hK _ _ ?_); clear hM0 hK K)) | fail) | (first | ((with_reducible refine at_alloc' ?_); (have hM0 := hM; clear hM; refine BigFrame.wpList_want (by rfl) fun K hK => ws_alloc hM0 (t := 77) rfl #[.slice none 0 0, .slice none 0 0, .int .i64 0] info_rmz (fun g8 w hM => hK _ _ ?_); clear hM0 hK K)) | fail) | (first | ((with_reducible refine at_load' ?_); (refine BigFrame.wpList_want (by rfl) fun K hK => ws_load hM rfl rfl (by (repeat (first | assumption | (with_reducible exact mZ) | apply mS)); first | done | fail) (n := 3) (by rfl) (by decide +kernel) (hK _ _ ?_); clear hK K)) | fail) | (first | ((with_reducible refine at_store' ?_); (have hM0 := hM; clear hM; refine BigFrame.wpList_want (by rfl) fun K hK => ws_store hM0 rfl rfl rfl (by (repeat (first | (with_reducible exact Take.head) | apply Take.tail)); first | done | fail) (n := 3) (by rfl) (by rfl) (by kernel_rfl) (by simp [Value.oneCell']) (fun w hM => hK _ _ ?_); clear hM0 hK K)) | fail) | (go_at_call 70; have hM0 := hM; clear hM; (first | (with_reducible refine (HI1.out _ _ hM0).mono ?_) | fail); clear hM0; rintro _ w ⟨rfl, hM⟩))
    refine bodyPost_ret (results_row_tmp (P := Try.prog) (ty := 77) rfl _ _ g8 77 (rmV A n c B m d lo) 3 (.int .i64 10) rfl rfl (hM.blk (by (repeat (first | assumption | (with_reducible exact mZ) | apply mS)); first | done | fail)) rfl (by decide +kernel)) rfl ?_
    exact ⟨rfl, hM.sel (by repeat (first | (with_reducible exact Sel.refl) | (with_reducible exact Take.head) | (with_reducible apply Take.tail) | (with_reducible apply Sel.cons) | (with_reducible apply Sel.drop)))⟩
set_option maxRecDepth 100000 in
set_option maxHeartbeats 4000000 in
theorem send_rm_big (k : Int) (x : List UInt8) (t : Int) (ht : 0 ≤ t ∧ t < (m : Int)) (hk : 0 ≤ k ∧ k < (m : Int)) (hx : 1024 < x.length) (hl0 : 0 ≤ lo) (hl1 : lo ≤ 1000000) (w : World) (hM : Star F w) :
    Calls Try.prog 65 #[.agg (rmV A n c B m d lo), .int .i64 k, .string ⟨x.toArray⟩, .int .i64 t] w fun r w' => r = .returned (.tuple #[.agg (rmV A n c B m d (lo + 1)), .int .i64 5]) ∧ Star F w' := by
  have HI1 : Hid (∀ (L : List SProp) (w : World), Star L w → Calls Try.prog 70 #[.agg (rmV A n c B m d lo), .int .i64 t] w fun r w' => r = .returned (.bool true) ∧ Star L w') := fun L w hM => in_rm t (decide_eq_true ht) w hM
  have HI2 : Hid (∀ (L : List SProp) (w : World), Star L w → Calls Try.prog 70 #[.agg (rmV A n c B m d lo), .int .i64 k] w fun r w' => r = .returned (.bool true) ∧ Star L w') := fun L w hM => in_rm k (decide_eq_true hk) w hM
  have HW : IntKind.i64.wrap (lo + 1) = lo + 1 := wrapL hl0 hl1
  have hxI : (1024 : Int) < (x.length : Int) := by omega
  clear ht hk hl0 hl1
  go_enter Try.func65, Try.ntmps65
  go_wp2_with (first | (first | ((with_reducible refine at_box' ?_); (have hM0 := hM; clear hM; refine BigFrame.wpList_want (by rfl) fun K hK => ws_box hM0 rfl rfl (cs := rmV A n c B m d lo) rfl (fun g4 w hM => hK _ _ ?_); clear hM0 hK K)) | fail) | (first | ((with_reducible refine at_alloc' ?_); (have hM0 := hM; clear hM; refine BigFrame.wpList_want (by rfl) fun K hK => ws_alloc hM0 (t := 77) rfl #[.slice none 0 0, .slice none 0 0, .int .i64 0] info_rmz (fun g8 w hM => hK _ _ ?_); clear hM0 hK K)) | fail) | (first | ((with_reducible refine at_load' ?_); (refine BigFrame.wpList_want (by rfl) fun K hK => ws_load hM rfl rfl (by (repeat (first | assumption | (with_reducible exact mZ) | apply mS)); first | done | fail) (n := 3) (by rfl) (by decide +kernel) (hK _ _ ?_); clear hK K)) | fail) | (first | ((with_reducible refine at_store' ?_); (have hM0 := hM; clear hM; refine BigFrame.wpList_want (by rfl) fun K hK => ws_store hM0 rfl rfl rfl (by (repeat (first | (with_reducible exact Take.head) | apply Take.tail)); first | done | fail) (n := 3) (by rfl) (by rfl) (by kernel_rfl) (by simp [Value.oneCell']) (fun w hM => hK _ _ ?_); clear hM0 hK K)) | fail) | (go_at_call 70; have hM0 := hM; clear hM; (first | (with_reducible refine (HI1.out _ _ hM0).mono ?_) | fail); clear hM0; rintro _ w ⟨rfl, hM⟩) | (go_at_call 70; have hM0 := hM; clear hM; (first | (with_reducible refine (HI2.out _ _ hM0).mono ?_) | fail); clear hM0; rintro _ w ⟨rfl, hM⟩) | (first | ((with_reducible refine at_load' ?_); (refine BigFrame.wpList_want (by rfl) fun K hK => ws_load1 hM rfl rfl (by (repeat (first | assumption | (with_reducible exact mZ) | apply mS)); first | done | fail) (by first | rfl | assumption) (by decide +kernel) (hK _ _ ?_); clear hK K)) | fail) | (first | ((with_reducible refine at_store' ?_); (have hM0 := hM; clear hM; refine BigFrame.wpList_want (by rfl) fun K hK => ws_store1 hM0 rfl rfl (by go_simp; rfl) (by first | rfl | assumption) (by (repeat (first | (with_reducible exact Take.head) | apply Take.tail)); first | done | fail) (by simp) (by kernel_rfl) (by simp only [List.setIfInBounds_toArray, List.set_cons_zero, List.set_cons_succ]; rfl) (fun w hM => hK _ _ ?_); clear hM0 hK K)) | fail))
  refine bodyPost_ret (results_row_tmp (P := Try.prog) (ty := 77) rfl _ _ g8 77 (rmV A n c B m d (lo + 1)) 3 (.int .i64 5) rfl rfl (hM.blk (by (repeat (first | assumption | (with_reducible exact mZ) | apply mS)); first | done | fail)) rfl (by decide +kernel)) rfl ?_
  exact ⟨rfl, hM.sel (by repeat (first | (with_reducible exact Sel.refl) | (with_reducible exact Take.head) | (with_reducible apply Take.tail) | (with_reducible apply Sel.cons) | (with_reducible apply Sel.drop)))⟩
set_option maxRecDepth 100000 in
set_option maxHeartbeats 4000000 in
theorem send_rm_full (hn : L.length = n) (hn2 : n ≤ 100000) (k : Int) (x : List UInt8) (t : Int) (ht : 0 ≤ t ∧ t < (m : Int)) (hk : 0 ≤ k ∧ k < (m : Int)) (hx : x.length ≤ 1024) (hc : 8 ≤ rcount t k L) (hl0 : 0 ≤ lo) (hl1 : lo ≤ 1000000) (w : World) (hM : Star F w) (hL : rowE 3 A n (rps L) ∈ F) :
    Calls Try.prog 65 #[.agg (rmV A n c B m d lo), .int .i64 k, .string ⟨x.toArray⟩, .int .i64 t] w fun r w' => r = .returned (.tuple #[.agg (rmV A n c B m d (lo + 1)), .int .i64 14]) ∧ Star F w' := by
  have HI1 : Hid (∀ (L : List SProp) (w : World), Star L w → Calls Try.prog 70 #[.agg (rmV A n c B m d lo), .int .i64 t] w fun r w' => r = .returned (.bool true) ∧ Star L w') := fun L w hM => in_rm t (decide_eq_true ht) w hM
  have HI2 : Hid (∀ (L : List SProp) (w : World), Star L w → Calls Try.prog 70 #[.agg (rmV A n c B m d lo), .int .i64 k] w fun r w' => r = .returned (.bool true) ∧ Star L w') := fun L w hM => in_rm k (decide_eq_true hk) w hM
  have HW : IntKind.i64.wrap (lo + 1) = lo + 1 := wrapL hl0 hl1
  have hxI : (x.length : Int) ≤ 1024 := by omega
  obtain ⟨v, hv⟩ : ∃ v, rcount t k L = v := ⟨_, rfl⟩
  have HWT : Hid (∀ (L2 : List SProp) (w : World), Star L2 w → rowE 3 A n (rps L) ∈ L2 → Calls Try.prog 41 #[.agg (rmV A n c B m d lo), .int .i64 t, .int .i64 k] w fun r w' => r = .returned (.int .i64 v) ∧ Star L2 w') := fun L2 w hM hx => by
    have := waits_rm (B := B) (c := c) (m := m) (d := d) (lo := lo) hn (by omega) t k w hM hx
    rwa [hv] at this
  rw [hv] at hc
  have hc8 : decide ((8 : Int) ≤ (v : Int)) = true := by simp; omega
  have hc9 : (8 : Int) ≤ (v : Int) := by omega
  clear ht hk hl0 hl1 hv
  go_enter Try.func65, Try.ntmps65
  go_wp2_with (first | (first | ((with_reducible refine at_box' ?_); (have hM0 := hM; clear hM; refine BigFrame.wpList_want (by rfl) fun K hK => ws_box hM0 rfl rfl (cs := rmV A n c B m d lo) rfl (fun g4 w hM => hK _ _ ?_); clear hM0 hK K)) | fail) | (first | ((with_reducible refine at_alloc' ?_); (have hM0 := hM; clear hM; refine BigFrame.wpList_want (by rfl) fun K hK => ws_alloc hM0 (t := 77) rfl #[.slice none 0 0, .slice none 0 0, .int .i64 0] info_rmz (fun g8 w hM => hK _ _ ?_); clear hM0 hK K)) | fail) | (first | ((with_reducible refine at_load' ?_); (refine BigFrame.wpList_want (by rfl) fun K hK => ws_load hM rfl rfl (by (repeat (first | assumption | (with_reducible exact mZ) | apply mS)); first | done | fail) (n := 3) (by rfl) (by decide +kernel) (hK _ _ ?_); clear hK K)) | fail) | (first | ((with_reducible refine at_store' ?_); (have hM0 := hM; clear hM; refine BigFrame.wpList_want (by rfl) fun K hK => ws_store hM0 rfl rfl rfl (by (repeat (first | (with_reducible exact Take.head) | apply Take.tail)); first | done | fail) (n := 3) (by rfl) (by rfl) (by kernel_rfl) (by simp [Value.oneCell']) (fun w hM => hK _ _ ?_); clear hM0 hK K)) | fail) | (go_at_call 70; have hM0 := hM; clear hM; (first | (with_reducible refine (HI1.out _ _ hM0).mono ?_) | fail); clear hM0; rintro _ w ⟨rfl, hM⟩) | (go_at_call 70; have hM0 := hM; clear hM; (first | (with_reducible refine (HI2.out _ _ hM0).mono ?_) | fail); clear hM0; rintro _ w ⟨rfl, hM⟩) | (go_at_call 41; have hM0 := hM; clear hM; (first | (with_reducible refine (HWT.out _ _ hM0 (by (repeat (first | assumption | (with_reducible exact mZ) | apply mS)); first | done | fail)).mono ?_) | fail); clear hM0; rintro _ w ⟨rfl, hM⟩) | (first | ((with_reducible refine at_load' ?_); (refine BigFrame.wpList_want (by rfl) fun K hK => ws_load1 hM rfl rfl (by (repeat (first | assumption | (with_reducible exact mZ) | apply mS)); first | done | fail) (by first | rfl | assumption) (by decide +kernel) (hK _ _ ?_); clear hK K)) | fail) | (first | ((with_reducible refine at_store' ?_); (have hM0 := hM; clear hM; refine BigFrame.wpList_want (by rfl) fun K hK => ws_store1 hM0 rfl rfl (by go_simp; rfl) (by first | rfl | assumption) (by (repeat (first | (with_reducible exact Take.head) | apply Take.tail)); first | done | fail) (by simp) (by kernel_rfl) (by simp only [List.setIfInBounds_toArray, List.set_cons_zero, List.set_cons_succ]; rfl) (fun w hM => hK _ _ ?_); clear hM0 hK K)) | fail))
  refine bodyPost_ret (results_row_tmp (P := Try.prog) (ty := 77) rfl _ _ g8 77 (rmV A n c B m d (lo + 1)) 3 (.int .i64 14) rfl rfl (hM.blk (by (repeat (first | assumption | (with_reducible exact mZ) | apply mS)); first | done | fail)) rfl (by decide +kernel)) rfl ?_
  exact ⟨rfl, hM.sel (by repeat (first | (with_reducible exact Sel.refl) | (with_reducible exact Take.head) | (with_reducible apply Take.tail) | (with_reducible apply Sel.cons) | (with_reducible apply Sel.drop)))⟩
set_option maxRecDepth 100000 in
set_option maxHeartbeats 4000000 in
theorem send_rm_ok (hn : L.length = n) (hn2 : n ≤ 100000) (k : Int) (x : List UInt8) (t : Int) (ht : 0 ≤ t ∧ t < (m : Int)) (hk : 0 ≤ k ∧ k < (m : Int)) (hx : x.length ≤ 1024) (hc : rcount t k L < 8) (w : World) (hM : Star F w) (hL : rowE 3 A n (rps L) ∈ F) :
    Calls Try.prog 65 #[.agg (rmV A n c B m d lo), .int .i64 k, .string ⟨x.toArray⟩, .int .i64 t] w fun r w' => ∃ A' c', r = .returned (.tuple #[.agg (rmV A' (n + 1) c' B m d lo), .int .i64 0]) ∧ n + 1 ≤ c' ∧ Star (rowE 3 A' (n + 1) (rps (L ++ [(t, k, x)])) :: F) w' := by
  have HI1 : Hid (∀ (L : List SProp) (w : World), Star L w → Calls Try.prog 70 #[.agg (rmV A n c B m d lo), .int .i64 t] w fun r w' => r = .returned (.bool true) ∧ Star L w') := fun L w hM => in_rm t (decide_eq_true ht) w hM
  have HI2 : Hid (∀ (L : List SProp) (w : World), Star L w → Calls Try.prog 70 #[.agg (rmV A n c B m d lo), .int .i64 k] w fun r w' => r = .returned (.bool true) ∧ Star L w') := fun L w hM => in_rm k (decide_eq_true hk) w hM
  have hxI : (x.length : Int) ≤ 1024 := by omega
  obtain ⟨v, hv⟩ : ∃ v, rcount t k L = v := ⟨_, rfl⟩
  have HWT : Hid (∀ (L2 : List SProp) (w : World), Star L2 w → rowE 3 A n (rps L) ∈ L2 → Calls Try.prog 41 #[.agg (rmV A n c B m d lo), .int .i64 t, .int .i64 k] w fun r w' => r = .returned (.int .i64 v) ∧ Star L2 w') := fun L2 w hM hx => by
    have := waits_rm (B := B) (c := c) (m := m) (d := d) (lo := lo) hn (by omega) t k w hM hx
    rwa [hv] at this
  rw [hv] at hc
  have hc8 : decide ((8 : Int) ≤ (v : Int)) = false := by simp; omega
  have hc9 : decide (8 ≤ v) = false := by simp; omega
  have HO := Lib.hid rps_one
  have tok1 : Hid True := trivial
  clear ht hk hv
  go_enter Try.func65, Try.ntmps65
  go_wp2_with (first | (first | ((with_reducible refine at_box' ?_); (have hM0 := hM; clear hM; refine BigFrame.wpList_want (by rfl) fun K hK => ws_box hM0 rfl rfl (cs := rmV A n c B m d lo) rfl (fun g4 w hM => hK _ _ ?_); clear hM0 hK K)) | fail) | (first | ((with_reducible refine at_alloc' ?_); (have hM0 := hM; clear hM; refine BigFrame.wpList_want (by rfl) fun K hK => ws_alloc hM0 (t := 77) rfl #[.slice none 0 0, .slice none 0 0, .int .i64 0] info_rmz (fun g8 w hM => hK _ _ ?_); clear hM0 hK K)) | fail) | (first | ((with_reducible refine at_load' ?_); (refine BigFrame.wpList_want (by rfl) fun K hK => ws_load hM rfl rfl (by (repeat (first | assumption | (with_reducible exact mZ) | apply mS)); first | done | fail) (n := 3) (by rfl) (by decide +kernel) (hK _ _ ?_); clear hK K)) | fail) | (first | ((with_reducible refine at_store' ?_); (have hM0 := hM; clear hM; refine BigFrame.wpList_want (by rfl) fun K hK => ws_store hM0 rfl rfl rfl (by (repeat (first | (with_reducible exact Take.head) | apply Take.tail)); first | done | fail) (n := 3) (by rfl) (by rfl) (by kernel_rfl) (by simp [Value.oneCell']) (fun w hM => hK _ _ ?_); clear hM0 hK K)) | fail) | (go_at_call 70; have hM0 := hM; clear hM; (first | (with_reducible refine (HI1.out _ _ hM0).mono ?_) | fail); clear hM0; rintro _ w ⟨rfl, hM⟩) | (go_at_call 70; have hM0 := hM; clear hM; (first | (with_reducible refine (HI2.out _ _ hM0).mono ?_) | fail); clear hM0; rintro _ w ⟨rfl, hM⟩) | (go_at_call 41; have hM0 := hM; clear hM; (first | (with_reducible refine (HWT.out _ _ hM0 (by (repeat (first | assumption | (with_reducible exact mZ) | apply mS)); first | done | fail)).mono ?_) | fail); clear hM0; rintro _ w ⟨rfl, hM⟩) | (first | ((with_reducible refine at_load' ?_); (refine BigFrame.wpList_want (by rfl) fun K hK => ws_load1 hM rfl rfl (by (repeat (first | assumption | (with_reducible exact mZ) | apply mS)); first | done | fail) (by first | rfl | assumption) (by decide +kernel) (hK _ _ ?_); clear hK K)) | fail) | (first | ((with_reducible refine at_store' ?_); (have hM0 := hM; clear hM; refine BigFrame.wpList_want (by rfl) fun K hK => ws_store1 hM0 rfl rfl (by go_simp; rfl) (by first | rfl | assumption) (by (repeat (first | (with_reducible exact Take.head) | apply Take.tail)); first | done | fail) (by simp) (by kernel_rfl) (by simp only [List.setIfInBounds_toArray, List.set_cons_zero, List.set_cons_succ]; rfl) (fun w hM => hK _ _ ?_); clear hM0 hK K)) | fail) | (first | ((with_reducible refine at_slice' ?_); (have hM0 := hM; clear hM; refine BigFrame.wpList_want (by rfl) fun K hK => ws_slice_own hM0 (n := 0) rfl 85 3 (.agg #[.int .i64 0, .int .i64 0, .string ByteArray.empty]) [] Try.underlying75 (by kernel_rfl) rfl (by simp [Value.cells, iv, sv, bv]) (by rfl) (by decide) (by decide) (cs := rps []) (by rfl) (fun g w hM => hK _ _ ?_); clear hM0 hK K)) | fail) | (first | ((with_reducible refine at_slice' ?_); (have hM0 := hM; clear hM; refine BigFrame.wpList_want (by rfl) fun K hK => ws_slice_row hM0 (n := 1) rfl 85 3 (.agg #[.int .i64 0, .int .i64 0, .string ByteArray.empty]) [.agg #[.int .i64 t, .int .i64 k, .string ⟨x.toArray⟩]] Try.underlying75 (by kernel_rfl) rfl (by simp [Value.cells, iv, sv, bv]) (by rfl) (by decide) (cs := rps [(t, k, x)]) (by rfl) (fun g5 w hM => hK _ _ ?_); clear hM0 hK K)) | fail) | (have _t := tok1; (first | ((with_reducible refine at_call' ?_); (have hM0 := hM; clear hM; refine BigFrame.wpList_want (by rfl) fun K hK => ws_append hM0 rfl rfl rfl 85 ((.agg #[.int .i64 0, .int .i64 0, .string ByteArray.empty])) 3 32 Try.underlying75 (by kernel_rfl) (by rfl) (by decide) (by (repeat (first | (with_reducible exact Take.head) | apply Take.tail)); first | done | fail) (by first | (apply Star.row hM0; (repeat (first | assumption | (with_reducible exact mZ) | apply mS)); done) | (apply Star.own hM0; (repeat (first | assumption | (with_reducible exact mZ) | apply mS)); done) | (apply Star.arr hM0; (focus ((repeat (first | assumption | (with_reducible exact mZ) | apply mS)); done)); assumption)) (HO.out _) ((by omega)) (fun A1 c1 w hM hnil => hK _ _ ?_); clear hM0 hK K)) | fail); clear tok1; rw [Nat.zero_add] at hM) | (first | ((with_reducible refine at_call' ?_); (have hM0 := hM; clear hM; refine BigFrame.wpList_want (by rfl) fun K hK => ws_append hM0 rfl rfl rfl 85 ((.agg #[.int .i64 0, .int .i64 0, .string ByteArray.empty])) 3 32 Try.underlying75 (by kernel_rfl) (by rfl) (by decide) (by (repeat (first | (with_reducible exact Take.head) | apply Take.tail)); first | done | fail) (by first | (apply Star.row hM0; (repeat (first | assumption | (with_reducible exact mZ) | apply mS)); done) | (apply Star.own hM0; (repeat (first | assumption | (with_reducible exact mZ) | apply mS)); done) | (apply Star.arr hM0; (focus ((repeat (first | assumption | (with_reducible exact mZ) | apply mS)); done)); assumption)) (HO.out _) ((by omega)) (fun A2 c2 w hM hnil => hK _ _ ?_); clear hM0 hK K)) | fail))
  refine bodyPost_ret (results_row_tmp (P := Try.prog) (ty := 77) rfl _ _ g8 77 (rmV A2 (n + 1) c2 B m d lo) 3 (.int .i64 0) rfl rfl (hM.blk (by (repeat (first | assumption | (with_reducible exact mZ) | apply mS)); first | done | fail)) rfl (by decide +kernel)) rfl ?_
  have hM2 : Star (ownE 85 3 A2 (n + 1) c2 (rps [] ++ rps L ++ rps [(t, k, x)]) :: F) w := hM.sel (by repeat (first | (with_reducible exact Sel.refl) | (with_reducible exact Take.head) | (with_reducible apply Take.tail) | (with_reducible apply Sel.cons) | (with_reducible apply Sel.drop)))
  have e : rps [] ++ rps L ++ rps [(t, k, x)] = rps (L ++ [(t, k, x)]) := by rw [rps_app]; rfl
  rw [e] at hM2
  have hcc : n + 1 ≤ c2 := by
    rcases hM2.head.2 with ⟨e1, h0⟩ | ⟨g, cap, cur, e1, _, _, h4, _⟩
    · omega
    · injection e1 with _ _ e1; omega
  exact ⟨A2, c2, rfl, hcc, hM2.freeze⟩
end
end Go.Proofs.Ytbejifbiffeamaa
set_option linter.unusedSimpArgs false
set_option linter.unusedVariables false
namespace Go.Proofs.Ytbejifbiffeamaa
open Go.RowKit
attribute [local go_sem] extract_mid extract_drop bget bsize wrap64_u8 i64_u8 u64_u8 bappend
theorem rps_drop (l : List RP) (k : Nat) : (rps l).drop (k * 3) = rps (l.drop k) := by
  induction k generalizing l with
  | zero => simp
  | succ k ih =>
    cases l with
    | nil => simp [rps]
    | cons x xs =>
      have e : (k + 1) * 3 = 3 + k * 3 := by omega
      rw [e, ← List.drop_drop]
      show List.drop (k * 3) (rps xs) = rps (xs.drop k)
      exact ih xs
theorem rps_take (l : List RP) (k : Nat) : (rps l).take (k * 3) = rps (l.take k) := by
  induction k generalizing l with
  | zero => simp [rps]
  | succ k ih =>
    cases l with
    | nil => simp [rps]
    | cons x xs =>
      have e : (k + 1) * 3 = k * 3 + 1 + 1 + 1 := by omega
      rw [e]
      show _ :: _ :: _ :: List.take (k * 3) (rps xs) = rpV x ++ rps (xs.take k)
      rw [ih xs]
      rfl
theorem Rd.take3 {w : World} {size n k : Nat} {A : Option Addr} {xs : List Value} (h : Rd w size A n xs) (hk : k ≤ n) : Rd w size A k (xs.take (k * size)) :=
  ⟨by rw [List.length_take, h.1]; exact Nat.min_eq_left (Nat.mul_le_mul_right _ hk), fun hp => by
    obtain ⟨ad, e, hb, hc⟩ := h.2 (by omega)
    refine ⟨ad, e, hb, fun j u hj => hc j u ?_⟩
    rw [List.getElem?_take] at hj
    split at hj
    · exact hj
    · cases hj⟩
theorem Star.row_cut3 {L : List SProp} {w : World} {A : Option Addr} {n k c : Nat} {l : List RP} (h : Star L w) (hx : rowE 3 A n (rps l) ∈ L) (hk : k ≤ n) (hc : n ≤ c) :
    Star (rowE 3 (if c = k then A else A.map (·.add (k * 3))) (n - k) (rps (l.drop k)) :: L) w := by
  have h9 := (h.row hx).cut hk hc
  rw [rps_drop] at h9
  refine h.view hx rfl rfl (fun b ⟨ad, e2, h1, h2⟩ => ?_) h9
  split at e2
  · exact ⟨ad, e2, by omega, h2⟩
  · cases A with
    | none => cases e2
    | some ad2 => injection e2 with e2; subst e2; exact ⟨ad2, rfl, by omega, by rw [h2]; exact block_of_add _ _⟩
theorem Star.row_take3 {L : List SProp} {w : World} {A : Option Addr} {n k : Nat} {l : List RP} (h : Star L w) (hx : rowE 3 A n (rps l) ∈ L) (hk : k ≤ n) :
    Star (rowE 3 A k (rps (l.take k)) :: L) w := by
  have h9 := (h.row hx).take3 hk
  rw [rps_take] at h9
  exact h.view hx rfl rfl (fun _ ⟨ad, e, h1, h2⟩ => ⟨ad, e, by omega, h2⟩) h9
theorem le_succ_int (i : Nat) : ((i : Int) ≤ (i : Int) + 1) = True := by simp; omega
attribute [local go_sem] le_succ_int
section
variable {F : List SProp} {A B : Option Addr} {n c m d : Nat} {lo : Int} {L : List RP} {la : List Int}
set_option maxRecDepth 100000 in
set_option maxHeartbeats 8000000 in
theorem without_rm (hn : L.length = n) (hn2 : n ≤ 100000) (hc : n ≤ c) {x : Int} (i : Nat) (hx : x = i) (hi : i < n) (w : World) (hM : Star F w) (hL : rowE 3 A n (rps L) ∈ F) :
    Calls Try.prog 72 #[.agg (rmV A n c B m d lo), .int .i64 x] w fun r w' => ∃ A' c', r = .returned (.agg (rmV A' (n - 1) c' B m d lo)) ∧ n - 1 ≤ c' ∧ Star (rowE 3 A' (n - 1) (rps (L.eraseIdx i)) :: F) w' := by
  subst hx
  obtain ⟨ad, rfl⟩ : ∃ ad, A = some ad := by
    obtain ⟨ad, e, _⟩ := (hM.row (A := A) (n := n) (xs := rps L) (by (repeat (first | assumption | (with_reducible exact mZ) | apply mS)); first | done | fail)).2 (by omega)
    exact ⟨ad, e⟩
  have h1 := hM.row_take3 hL (show i ≤ n by omega)
  obtain ⟨i1, hi1⟩ : ∃ i1, i + 1 = i1 := ⟨_, rfl⟩
  have h2 := h1.row_cut3 (k := i1) (List.mem_cons_of_mem _ hL) (show i1 ≤ n by omega) hc
  obtain ⟨A9, hA9⟩ : ∃ A9, (if c = i1 then some ad else some (ad.add (i1 * 3))) = A9 := ⟨_, rfl⟩
  obtain ⟨r9, hr9⟩ : ∃ r9, n - i1 = r9 := ⟨_, rfl⟩
  have hM3 : Star (rowE 3 A9 r9 (rps (L.drop i1)) :: rowE 3 (some ad) i (rps (L.take i)) :: F) w := by rw [← hA9, ← hr9]; exact h2
  clear h1 h2 hM
  have hM := hM3
  clear hM3
  have hrn : r9 ≤ n := by omega
  have hrt : Hid (i + r9 = n - 1) := by show _ = _; omega
  have HO := Lib.hid rps_one
  have HI1 := Lib.hid hi1
  have hicI : (i : Int) ≤ (c : Int) := by omega
  have hw : IntKind.i64.wrap ((i : Int) + 1) = (i1 : Int) := by rw [← hi1]; simp [IntKind.wrap, IntKind.bits, IntKind.signed]; omega
  have h1n : (i1 : Int) ≤ (n : Int) := by omega
  have h1m : i1 ≤ n := by omega
  have hii1 : i ≤ i1 := by omega
  have hii2 : (i : Int) ≤ (i1 : Int) := by omega
  have hin : i ≤ 100000 := by omega
  by_cases hce : c = i1
  · obtain rfl : A9 = some ad := by rw [← hA9, if_pos hce]
    have HC := Lib.hid hce
    clear hA9 hi1
    go_enter Try.func72, Try.ntmps72
    go_wp2_with (first | (first | ((with_reducible refine at_box' ?_); (have hM0 := hM; clear hM; refine BigFrame.wpList_want (by rfl) fun K hK => ws_box hM0 rfl rfl (cs := rmV (some ad) n c B m d lo) rfl (fun g2 w hM => hK _ _ ?_); clear hM0 hK K)) | fail) | (first | ((with_reducible refine at_alloc' ?_); (have hM0 := hM; clear hM; refine BigFrame.wpList_want (by rfl) fun K hK => ws_alloc hM0 (t := 77) rfl #[.slice none 0 0, .slice none 0 0, .int .i64 0] info_rmz (fun g8 w hM => hK _ _ ?_); clear hM0 hK K)) | fail))
    (refine region_RS ([cellsE g2 77 (rmV (some ad) n c B m d lo), rowE 3 (some ad) i (rps (L.take i)), rowE 3 (some ad) r9 (rps (L.drop i1))]) [13] (by kernel_rfl) hM ?_; clear hM; change RS _ _ _ _ _ _ 14 (Array.replicate 14 false) _ _; refine RS_take (i := 1) rfl (by decide +kernel) (fun _ _ _ h => h) (by first | (intro x hx; (repeat (first | exact hx | apply mS)); done) | ((repeat (refine List.forall_mem_cons.2 ⟨(by (repeat (first | assumption | (with_reducible exact mZ) | apply mS)); first | done | fail), ?_⟩)); intro x hx; first | (cases hx; done) | ((repeat (first | exact hx | apply mS)); done))) (stab_pure (by rfl) (fun w => (by go_simp; try with_reducible rfl))) ?_; simp only [Act.put, List.setIfInBounds_toArray, List.set_cons_zero, List.set_cons_succ]; refine RS_take (i := 2) rfl (by decide +kernel) (fun _ _ _ h => h) (by first | (intro x hx; (repeat (first | exact hx | apply mS)); done) | ((repeat (refine List.forall_mem_cons.2 ⟨(by (repeat (first | assumption | (with_reducible exact mZ) | apply mS)); first | done | fail), ?_⟩)); intro x hx; first | (cases hx; done) | ((repeat (first | exact hx | apply mS)); done))) (stab_read (by rfl) (fun L w hL hM => (ex_load1 (v := .slice (some ad) n c) hM rfl rfl (hL _ (by (repeat (first | assumption | (with_reducible exact mZ) | apply mS)); first | done | fail)) rfl (by decide +kernel)))) ?_; simp only [Act.put, List.setIfInBounds_toArray, List.set_cons_zero, List.set_cons_succ]; refine RS_take (i := 3) rfl (by decide +kernel) (fun _ _ _ h => h) (by first | (intro x hx; (repeat (first | exact hx | apply mS)); done) | ((repeat (refine List.forall_mem_cons.2 ⟨(by (repeat (first | assumption | (with_reducible exact mZ) | apply mS)); first | done | fail), ?_⟩)); intro x hx; first | (cases hx; done) | ((repeat (first | exact hx | apply mS)); done))) (stab_pure (by rfl) (fun w => (by go_simp; try with_reducible rfl))) ?_; simp only [Act.put, List.setIfInBounds_toArray, List.set_cons_zero, List.set_cons_succ]; refine RS_take (i := 4) rfl (by decide +kernel) (fun _ _ _ h => h) (by first | (intro x hx; (repeat (first | exact hx | apply mS)); done) | ((repeat (refine List.forall_mem_cons.2 ⟨(by (repeat (first | assumption | (with_reducible exact mZ) | apply mS)); first | done | fail), ?_⟩)); intro x hx; first | (cases hx; done) | ((repeat (first | exact hx | apply mS)); done))) (stab_pure (by rfl) (fun w => (by go_simp; try with_reducible rfl))) ?_; simp only [Act.put, List.setIfInBounds_toArray, List.set_cons_zero, List.set_cons_succ]; refine RS_take (i := 6) rfl (by decide +kernel) (fun _ _ _ h => h) (by first | (intro x hx; (repeat (first | exact hx | apply mS)); done) | ((repeat (refine List.forall_mem_cons.2 ⟨(by (repeat (first | assumption | (with_reducible exact mZ) | apply mS)); first | done | fail), ?_⟩)); intro x hx; first | (cases hx; done) | ((repeat (first | exact hx | apply mS)); done))) (stab_pure (by rfl) (fun w => (by go_simp; try with_reducible rfl))) ?_; simp only [Act.put, List.setIfInBounds_toArray, List.set_cons_zero, List.set_cons_succ]; refine RS_take (i := 7) rfl (by decide +kernel) (fun _ _ _ h => h) (by first | (intro x hx; (repeat (first | exact hx | apply mS)); done) | ((repeat (refine List.forall_mem_cons.2 ⟨(by (repeat (first | assumption | (with_reducible exact mZ) | apply mS)); first | done | fail), ?_⟩)); intro x hx; first | (cases hx; done) | ((repeat (first | exact hx | apply mS)); done))) (stab_read (by rfl) (fun L w hL hM => (ex_load1 (v := .slice (some ad) n c) hM rfl rfl (hL _ (by (repeat (first | assumption | (with_reducible exact mZ) | apply mS)); first | done | fail)) rfl (by decide +kernel)))) ?_; simp only [Act.put, List.setIfInBounds_toArray, List.set_cons_zero, List.set_cons_succ]; refine RS_take (i := 8) rfl (by decide +kernel) (fun _ _ _ h => h) (by first | (intro x hx; (repeat (first | exact hx | apply mS)); done) | ((repeat (refine List.forall_mem_cons.2 ⟨(by (repeat (first | assumption | (with_reducible exact mZ) | apply mS)); first | done | fail), ?_⟩)); intro x hx; first | (cases hx; done) | ((repeat (first | exact hx | apply mS)); done))) (stab_pure (by rfl) (fun w => (by go_simp; try with_reducible rfl))) ?_; simp only [Act.put, List.setIfInBounds_toArray, List.set_cons_zero, List.set_cons_succ]; refine RS_take (i := 9) rfl (by decide +kernel) (fun _ _ _ h => h) (by first | (intro x hx; (repeat (first | exact hx | apply mS)); done) | ((repeat (refine List.forall_mem_cons.2 ⟨(by (repeat (first | assumption | (with_reducible exact mZ) | apply mS)); first | done | fail), ?_⟩)); intro x hx; first | (cases hx; done) | ((repeat (first | exact hx | apply mS)); done))) (stab_pure (by rfl) (fun w => (by go_simp; try with_reducible rfl))) ?_; simp only [Act.put, List.setIfInBounds_toArray, List.set_cons_zero, List.set_cons_succ]; refine RS_take (i := 10) rfl (by decide +kernel) (fun _ _ _ h => h) (by first | (intro x hx; (repeat (first | exact hx | apply mS)); done) | ((repeat (refine List.forall_mem_cons.2 ⟨(by (repeat (first | assumption | (with_reducible exact mZ) | apply mS)); first | done | fail), ?_⟩)); intro x hx; first | (cases hx; done) | ((repeat (first | exact hx | apply mS)); done))) (stab_pure (by rfl) (fun w => (by go_simp; try with_reducible rfl))) ?_; simp only [Act.put, List.setIfInBounds_toArray, List.set_cons_zero, List.set_cons_succ]; refine RS_one (i := 0) (by decide +kernel) rfl (by rfl) (.inl (by first | (intro x hx; (repeat (first | exact hx | apply mS)); done) | ((repeat (refine List.forall_mem_cons.2 ⟨(by (repeat (first | assumption | (with_reducible exact mZ) | apply mS)); first | done | fail), ?_⟩)); intro x hx; first | (cases hx; done) | ((repeat (first | exact hx | apply mS)); done)))) (fun w K hM0 hK => ?_); refine ws_slice_own hM0 (n := 0) rfl 85 3 (.agg #[.int .i64 0, .int .i64 0, .string ByteArray.empty]) [] Try.underlying75 (by kernel_rfl) rfl (by simp [Value.cells, iv, sv, bv]) (by rfl) (by decide) (by decide) (cs := rps []) (by rfl) (fun g5 w hM => hK _ _ _ hM ?_); clear hM hM0 hK K; simp only [Act.put, List.setIfInBounds_toArray, List.set_cons_zero, List.set_cons_succ]; refine RS_one (i := 5) (by decide +kernel) rfl (by rfl) (.inl (by first | (intro x hx; (repeat (first | exact hx | apply mS)); done) | ((repeat (refine List.forall_mem_cons.2 ⟨(by (repeat (first | assumption | (with_reducible exact mZ) | apply mS)); first | done | fail), ?_⟩)); intro x hx; first | (cases hx; done) | ((repeat (first | exact hx | apply mS)); done)))) (fun w K hM0 hK => ?_); refine ws_append hM0 rfl rfl rfl 85 ((.agg #[.int .i64 0, .int .i64 0, .string ByteArray.empty])) 3 32 Try.underlying75 (by kernel_rfl) (by rfl) (by decide) (by (repeat (first | (with_reducible exact Take.head) | apply Take.tail)); first | done | fail) (by first | (apply Star.row hM0; (repeat (first | assumption | (with_reducible exact mZ) | apply mS)); done) | (apply Star.own hM0; (repeat (first | assumption | (with_reducible exact mZ) | apply mS)); done) | (apply Star.arr hM0; (focus ((repeat (first | assumption | (with_reducible exact mZ) | apply mS)); done)); assumption)) (HO.out _) ((by omega)) (fun A1 c1 w hM hnil => hK _ _ _ hM ?_); clear hM hM0 hK K; simp only [Act.put, List.setIfInBounds_toArray, List.set_cons_zero, List.set_cons_succ]; refine RS_one (i := 11) (by decide +kernel) rfl (by rfl) (.inl (by first | (intro x hx; (repeat (first | exact hx | apply mS)); done) | ((repeat (refine List.forall_mem_cons.2 ⟨(by (repeat (first | assumption | (with_reducible exact mZ) | apply mS)); first | done | fail), ?_⟩)); intro x hx; first | (cases hx; done) | ((repeat (first | exact hx | apply mS)); done)))) (fun w K hM0 hK => ?_); refine ws_append hM0 rfl rfl rfl 85 ((.agg #[.int .i64 0, .int .i64 0, .string ByteArray.empty])) 3 32 Try.underlying75 (by kernel_rfl) (by rfl) (by decide) (by (repeat (first | (with_reducible exact Take.head) | apply Take.tail)); first | done | fail) (by first | (apply Star.row hM0; (repeat (first | assumption | (with_reducible exact mZ) | apply mS)); done) | (apply Star.own hM0; (repeat (first | assumption | (with_reducible exact mZ) | apply mS)); done) | (apply Star.arr hM0; (focus ((repeat (first | assumption | (with_reducible exact mZ) | apply mS)); done)); assumption)) (HO.out _) ((by omega)) (fun A2 c2 w hM hnil => hK _ _ _ hM ?_); clear hM hM0 hK K; simp only [Act.put, List.setIfInBounds_toArray, List.set_cons_zero, List.set_cons_succ]; refine RS_take (i := 12) rfl (by decide +kernel) (fun _ _ _ h => h) (by first | (intro x hx; (repeat (first | exact hx | apply mS)); done) | ((repeat (refine List.forall_mem_cons.2 ⟨(by (repeat (first | assumption | (with_reducible exact mZ) | apply mS)); first | done | fail), ?_⟩)); intro x hx; first | (cases hx; done) | ((repeat (first | exact hx | apply mS)); done))) (stab_pure (by rfl) (fun w => (by go_simp; try with_reducible rfl))) ?_; simp only [Act.put, List.setIfInBounds_toArray, List.set_cons_zero, List.set_cons_succ]; refine RS_one (i := 13) (by decide +kernel) rfl (by rfl) (.inl (by first | (intro x hx; (repeat (first | exact hx | apply mS)); done) | ((repeat (refine List.forall_mem_cons.2 ⟨(by (repeat (first | assumption | (with_reducible exact mZ) | apply mS)); first | done | fail), ?_⟩)); intro x hx; first | (cases hx; done) | ((repeat (first | exact hx | apply mS)); done)))) (fun w K hM0 hK => ?_); refine ws_store1 hM0 rfl rfl (by go_simp; rfl) (by first | rfl | assumption) (by (repeat (first | (with_reducible exact Take.head) | apply Take.tail)); first | done | fail) (by simp) (by kernel_rfl) (by simp only [List.setIfInBounds_toArray, List.set_cons_zero, List.set_cons_succ]; rfl) (fun w hM => hK _ _ _ hM ?_); clear hM hM0 hK K; simp only [Act.put, List.setIfInBounds_toArray, List.set_cons_zero, List.set_cons_succ]; refine RS_done (by decide +kernel) (.inr (by decide +kernel)) (fun w hM => ?_))
    all_goals (
      have e0 : 0 + i + r9 = n - 1 := by have := hrt.out; omega
      rw [e0, hrt.out] at hM
      go_wp2_with (first | (first | ((with_reducible refine at_load' ?_); (refine BigFrame.wpList_want (by rfl) fun K hK => ws_load hM rfl rfl (by (repeat (first | assumption | (with_reducible exact mZ) | apply mS)); first | done | fail) (n := 3) (by rfl) (by decide +kernel) (hK _ _ ?_); clear hK K)) | fail) | (first | ((with_reducible refine at_store' ?_); (have hM0 := hM; clear hM; refine BigFrame.wpList_want (by rfl) fun K hK => ws_store hM0 rfl rfl rfl (by (repeat (first | (with_reducible exact Take.head) | apply Take.tail)); first | done | fail) (n := 3) (by rfl) (by rfl) (by kernel_rfl) (by simp [Value.oneCell']) (fun w hM => hK _ _ ?_); clear hM0 hK K)) | fail))
      refine bodyPost_ret (results_row (P := Try.prog) (ty := 77) rfl _ _ g8 77 (rmV A2 (n - 1) c2 B m d lo) 3 rfl (hM.blk (by (repeat (first | assumption | (with_reducible exact mZ) | apply mS)); first | done | fail)) rfl (by decide +kernel)) rfl ?_
      have hM2 : Star (ownE 85 3 A2 (n - 1) c2 (rps [] ++ rps (L.take i) ++ rps (L.drop i1)) :: F) _ := hM.sel (by repeat (first | (with_reducible exact Sel.refl) | (with_reducible exact Take.head) | (with_reducible apply Take.tail) | (with_reducible apply Sel.cons) | (with_reducible apply Sel.drop)))
      have e : rps [] ++ rps (L.take i) ++ rps (L.drop i1) = rps (L.eraseIdx i) := by rw [List.eraseIdx_eq_take_drop_succ, HI1.out, rps_app]; rfl
      rw [e] at hM2
      have hcc : n - 1 ≤ c2 := by
        rcases hM2.head.2 with ⟨e1, h0⟩ | ⟨g, cap, cur, e1, _, _, h4, _⟩
        · omega
        · injection e1 with _ _ e1; omega
      exact ⟨A2, c2, rfl, hcc, hM2.freeze⟩)
  · obtain rfl : A9 = some (ad.add (i1 * 3)) := by rw [← hA9, if_neg hce]
    clear hA9 hi1
    go_enter Try.func72, Try.ntmps72
    go_wp2_with (first | (first | ((with_reducible refine at_box' ?_); (have hM0 := hM; clear hM; refine BigFrame.wpList_want (by rfl) fun K hK => ws_box hM0 rfl rfl (cs := rmV (some ad) n c B m d lo) rfl (fun g2 w hM => hK _ _ ?_); clear hM0 hK K)) | fail) | (first | ((with_reducible refine at_alloc' ?_); (have hM0 := hM; clear hM; refine BigFrame.wpList_want (by rfl) fun K hK => ws_alloc hM0 (t := 77) rfl #[.slice none 0 0, .slice none 0 0, .int .i64 0] info_rmz (fun g8 w hM => hK _ _ ?_); clear hM0 hK K)) | fail))
    (refine region_RS ([cellsE g2 77 (rmV (some ad) n c B m d lo), rowE 3 (some ad) i (rps (L.take i)), rowE 3 (some (ad.add (i1 * 3))) r9 (rps (L.drop i1))]) [13] (by kernel_rfl) hM ?_; clear hM; change RS _ _ _ _ _ _ 14 (Array.replicate 14 false) _ _; refine RS_take (i := 1) rfl (by decide +kernel) (fun _ _ _ h => h) (by first | (intro x hx; (repeat (first | exact hx | apply mS)); done) | ((repeat (refine List.forall_mem_cons.2 ⟨(by (repeat (first | assumption | (with_reducible exact mZ) | apply mS)); first | done | fail), ?_⟩)); intro x hx; first | (cases hx; done) | ((repeat (first | exact hx | apply mS)); done))) (stab_pure (by rfl) (fun w => (by go_simp; try with_reducible rfl))) ?_; simp only [Act.put, List.setIfInBounds_toArray, List.set_cons_zero, List.set_cons_succ]; refine RS_take (i := 2) rfl (by decide +kernel) (fun _ _ _ h => h) (by first | (intro x hx; (repeat (first | exact hx | apply mS)); done) | ((repeat (refine List.forall_mem_cons.2 ⟨(by (repeat (first | assumption | (with_reducible exact mZ) | apply mS)); first | done | fail), ?_⟩)); intro x hx; first | (cases hx; done) | ((repeat (first | exact hx | apply mS)); done))) (stab_read (by rfl) (fun L w hL hM => (ex_load1 (v := .slice (some ad) n c) hM rfl rfl (hL _ (by (repeat (first | assumption | (with_reducible exact mZ) | apply mS)); first | done | fail)) rfl (by decide +kernel)))) ?_; simp only [Act.put, List.setIfInBounds_toArray, List.set_cons_zero, List.set_cons_succ]; refine RS_take (i := 3) rfl (by decide +kernel) (fun _ _ _ h => h) (by first | (intro x hx; (repeat (first | exact hx | apply mS)); done) | ((repeat (refine List.forall_mem_cons.2 ⟨(by (repeat (first | assumption | (with_reducible exact mZ) | apply mS)); first | done | fail), ?_⟩)); intro x hx; first | (cases hx; done) | ((repeat (first | exact hx | apply mS)); done))) (stab_pure (by rfl) (fun w => (by go_simp; try with_reducible rfl))) ?_; simp only [Act.put, List.setIfInBounds_toArray, List.set_cons_zero, List.set_cons_succ]; refine RS_take (i := 4) rfl (by decide +kernel) (fun _ _ _ h => h) (by first | (intro x hx; (repeat (first | exact hx | apply mS)); done) | ((repeat (refine List.forall_mem_cons.2 ⟨(by (repeat (first | assumption | (with_reducible exact mZ) | apply mS)); first | done | fail), ?_⟩)); intro x hx; first | (cases hx; done) | ((repeat (first | exact hx | apply mS)); done))) (stab_pure (by rfl) (fun w => (by go_simp; try with_reducible rfl))) ?_; simp only [Act.put, List.setIfInBounds_toArray, List.set_cons_zero, List.set_cons_succ]; refine RS_take (i := 6) rfl (by decide +kernel) (fun _ _ _ h => h) (by first | (intro x hx; (repeat (first | exact hx | apply mS)); done) | ((repeat (refine List.forall_mem_cons.2 ⟨(by (repeat (first | assumption | (with_reducible exact mZ) | apply mS)); first | done | fail), ?_⟩)); intro x hx; first | (cases hx; done) | ((repeat (first | exact hx | apply mS)); done))) (stab_pure (by rfl) (fun w => (by go_simp; try with_reducible rfl))) ?_; simp only [Act.put, List.setIfInBounds_toArray, List.set_cons_zero, List.set_cons_succ]; refine RS_take (i := 7) rfl (by decide +kernel) (fun _ _ _ h => h) (by first | (intro x hx; (repeat (first | exact hx | apply mS)); done) | ((repeat (refine List.forall_mem_cons.2 ⟨(by (repeat (first | assumption | (with_reducible exact mZ) | apply mS)); first | done | fail), ?_⟩)); intro x hx; first | (cases hx; done) | ((repeat (first | exact hx | apply mS)); done))) (stab_read (by rfl) (fun L w hL hM => (ex_load1 (v := .slice (some ad) n c) hM rfl rfl (hL _ (by (repeat (first | assumption | (with_reducible exact mZ) | apply mS)); first | done | fail)) rfl (by decide +kernel)))) ?_; simp only [Act.put, List.setIfInBounds_toArray, List.set_cons_zero, List.set_cons_succ]; refine RS_take (i := 8) rfl (by decide +kernel) (fun _ _ _ h => h) (by first | (intro x hx; (repeat (first | exact hx | apply mS)); done) | ((repeat (refine List.forall_mem_cons.2 ⟨(by (repeat (first | assumption | (with_reducible exact mZ) | apply mS)); first | done | fail), ?_⟩)); intro x hx; first | (cases hx; done) | ((repeat (first | exact hx | apply mS)); done))) (stab_pure (by rfl) (fun w => (by go_simp; try with_reducible rfl))) ?_; simp only [Act.put, List.setIfInBounds_toArray, List.set_cons_zero, List.set_cons_succ]; refine RS_take (i := 9) rfl (by decide +kernel) (fun _ _ _ h => h) (by first | (intro x hx; (repeat (first | exact hx | apply mS)); done) | ((repeat (refine List.forall_mem_cons.2 ⟨(by (repeat (first | assumption | (with_reducible exact mZ) | apply mS)); first | done | fail), ?_⟩)); intro x hx; first | (cases hx; done) | ((repeat (first | exact hx | apply mS)); done))) (stab_pure (by rfl) (fun w => (by go_simp; try with_reducible rfl))) ?_; simp only [Act.put, List.setIfInBounds_toArray, List.set_cons_zero, List.set_cons_succ]; refine RS_take (i := 10) rfl (by decide +kernel) (fun _ _ _ h => h) (by first | (intro x hx; (repeat (first | exact hx | apply mS)); done) | ((repeat (refine List.forall_mem_cons.2 ⟨(by (repeat (first | assumption | (with_reducible exact mZ) | apply mS)); first | done | fail), ?_⟩)); intro x hx; first | (cases hx; done) | ((repeat (first | exact hx | apply mS)); done))) (stab_pure (by rfl) (fun w => (by go_simp; try with_reducible rfl))) ?_; simp only [Act.put, List.setIfInBounds_toArray, List.set_cons_zero, List.set_cons_succ]; refine RS_one (i := 0) (by decide +kernel) rfl (by rfl) (.inl (by first | (intro x hx; (repeat (first | exact hx | apply mS)); done) | ((repeat (refine List.forall_mem_cons.2 ⟨(by (repeat (first | assumption | (with_reducible exact mZ) | apply mS)); first | done | fail), ?_⟩)); intro x hx; first | (cases hx; done) | ((repeat (first | exact hx | apply mS)); done)))) (fun w K hM0 hK => ?_); refine ws_slice_own hM0 (n := 0) rfl 85 3 (.agg #[.int .i64 0, .int .i64 0, .string ByteArray.empty]) [] Try.underlying75 (by kernel_rfl) rfl (by simp [Value.cells, iv, sv, bv]) (by rfl) (by decide) (by decide) (cs := rps []) (by rfl) (fun g5 w hM => hK _ _ _ hM ?_); clear hM hM0 hK K; simp only [Act.put, List.setIfInBounds_toArray, List.set_cons_zero, List.set_cons_succ]; refine RS_one (i := 5) (by decide +kernel) rfl (by rfl) (.inl (by first | (intro x hx; (repeat (first | exact hx | apply mS)); done) | ((repeat (refine List.forall_mem_cons.2 ⟨(by (repeat (first | assumption | (with_reducible exact mZ) | apply mS)); first | done | fail), ?_⟩)); intro x hx; first | (cases hx; done) | ((repeat (first | exact hx | apply mS)); done)))) (fun w K hM0 hK => ?_); refine ws_append hM0 rfl rfl rfl 85 ((.agg #[.int .i64 0, .int .i64 0, .string ByteArray.empty])) 3 32 Try.underlying75 (by kernel_rfl) (by rfl) (by decide) (by (repeat (first | (with_reducible exact Take.head) | apply Take.tail)); first | done | fail) (by first | (apply Star.row hM0; (repeat (first | assumption | (with_reducible exact mZ) | apply mS)); done) | (apply Star.own hM0; (repeat (first | assumption | (with_reducible exact mZ) | apply mS)); done) | (apply Star.arr hM0; (focus ((repeat (first | assumption | (with_reducible exact mZ) | apply mS)); done)); assumption)) (HO.out _) ((by omega)) (fun A1 c1 w hM hnil => hK _ _ _ hM ?_); clear hM hM0 hK K; simp only [Act.put, List.setIfInBounds_toArray, List.set_cons_zero, List.set_cons_succ]; refine RS_one (i := 11) (by decide +kernel) rfl (by rfl) (.inl (by first | (intro x hx; (repeat (first | exact hx | apply mS)); done) | ((repeat (refine List.forall_mem_cons.2 ⟨(by (repeat (first | assumption | (with_reducible exact mZ) | apply mS)); first | done | fail), ?_⟩)); intro x hx; first | (cases hx; done) | ((repeat (first | exact hx | apply mS)); done)))) (fun w K hM0 hK => ?_); refine ws_append hM0 rfl rfl rfl 85 ((.agg #[.int .i64 0, .int .i64 0, .string ByteArray.empty])) 3 32 Try.underlying75 (by kernel_rfl) (by rfl) (by decide) (by (repeat (first | (with_reducible exact Take.head) | apply Take.tail)); first | done | fail) (by first | (apply Star.row hM0; (repeat (first | assumption | (with_reducible exact mZ) | apply mS)); done) | (apply Star.own hM0; (repeat (first | assumption | (with_reducible exact mZ) | apply mS)); done) | (apply Star.arr hM0; (focus ((repeat (first | assumption | (with_reducible exact mZ) | apply mS)); done)); assumption)) (HO.out _) ((by omega)) (fun A2 c2 w hM hnil => hK _ _ _ hM ?_); clear hM hM0 hK K; simp only [Act.put, List.setIfInBounds_toArray, List.set_cons_zero, List.set_cons_succ]; refine RS_take (i := 12) rfl (by decide +kernel) (fun _ _ _ h => h) (by first | (intro x hx; (repeat (first | exact hx | apply mS)); done) | ((repeat (refine List.forall_mem_cons.2 ⟨(by (repeat (first | assumption | (with_reducible exact mZ) | apply mS)); first | done | fail), ?_⟩)); intro x hx; first | (cases hx; done) | ((repeat (first | exact hx | apply mS)); done))) (stab_pure (by rfl) (fun w => (by go_simp; try with_reducible rfl))) ?_; simp only [Act.put, List.setIfInBounds_toArray, List.set_cons_zero, List.set_cons_succ]; refine RS_one (i := 13) (by decide +kernel) rfl (by rfl) (.inl (by first | (intro x hx; (repeat (first | exact hx | apply mS)); done) | ((repeat (refine List.forall_mem_cons.2 ⟨(by (repeat (first | assumption | (with_reducible exact mZ) | apply mS)); first | done | fail), ?_⟩)); intro x hx; first | (cases hx; done) | ((repeat (first | exact hx | apply mS)); done)))) (fun w K hM0 hK => ?_); refine ws_store1 hM0 rfl rfl (by go_simp; rfl) (by first | rfl | assumption) (by (repeat (first | (with_reducible exact Take.head) | apply Take.tail)); first | done | fail) (by simp) (by kernel_rfl) (by simp only [List.setIfInBounds_toArray, List.set_cons_zero, List.set_cons_succ]; rfl) (fun w hM => hK _ _ _ hM ?_); clear hM hM0 hK K; simp only [Act.put, List.setIfInBounds_toArray, List.set_cons_zero, List.set_cons_succ]; refine RS_done (by decide +kernel) (.inr (by decide +kernel)) (fun w hM => ?_))
    all_goals (
      have e0 : 0 + i + r9 = n - 1 := by have := hrt.out; omega
      rw [e0, hrt.out] at hM
      go_wp2_with (first | (first | ((with_reducible refine at_load' ?_); (refine BigFrame.wpList_want (by rfl) fun K hK => ws_load hM rfl rfl (by (repeat (first | assumption | (with_reducible exact mZ) | apply mS)); first | done | fail) (n := 3) (by rfl) (by decide +kernel) (hK _ _ ?_); clear hK K)) | fail) | (first | ((with_reducible refine at_store' ?_); (have hM0 := hM; clear hM; refine BigFrame.wpList_want (by rfl) fun K hK => ws_store hM0 rfl rfl rfl (by (repeat (first | (with_reducible exact Take.head) | apply Take.tail)); first | done | fail) (n := 3) (by rfl) (by rfl) (by kernel_rfl) (by simp [Value.oneCell']) (fun w hM => hK _ _ ?_); clear hM0 hK K)) | fail))
      refine bodyPost_ret (results_row (P := Try.prog) (ty := 77) rfl _ _ g8 77 (rmV A2 (n - 1) c2 B m d lo) 3 rfl (hM.blk (by (repeat (first | assumption | (with_reducible exact mZ) | apply mS)); first | done | fail)) rfl (by decide +kernel)) rfl ?_
      have hM2 : Star (ownE 85 3 A2 (n - 1) c2 (rps [] ++ rps (L.take i) ++ rps (L.drop i1)) :: F) _ := hM.sel (by repeat (first | (with_reducible exact Sel.refl) | (with_reducible exact Take.head) | (with_reducible apply Take.tail) | (with_reducible apply Sel.cons) | (with_reducible apply Sel.drop)))
      have e : rps [] ++ rps (L.take i) ++ rps (L.drop i1) = rps (L.eraseIdx i) := by rw [List.eraseIdx_eq_take_drop_succ, HI1.out, rps_app]; rfl
      rw [e] at hM2
      have hcc : n - 1 ≤ c2 := by
        rcases hM2.head.2 with ⟨e1, h0⟩ | ⟨g, cap, cur, e1, _, _, h4, _⟩
        · omega
        · injection e1 with _ _ e1; omega
      exact ⟨A2, c2, rfl, hcc, hM2.freeze⟩)
abbrev rpA (p : RP) : Value := .agg #[.int .i64 p.1, .int .i64 p.2.1, .string ⟨p.2.2.toArray⟩]
theorem results_rows_tmp {P : Program} {fn : Func} {p q u : Tmp} {ty ty2 : TypeId} (h : fn.results = #[.cell p ty, .cell q ty2, .tmp u]) (tmps : Array Value) (w : World) (g g2 : Nat) (t t2 : TypeId) (cs cs2 : Array Value) (n n2 : Nat) (v : Value) (hp : tmps.getD p undef = .pointer (some ⟨g, 0, none⟩)) (hq : tmps.getD q undef = .pointer (some ⟨g2, 0, none⟩)) (hv : tmps.getD u undef = v) (hg : Blk w g t cs) (hn : cs.size = n) (hr : rowTy P ty n = true) (hg2 : Blk w g2 t2 cs2) (hn2 : cs2.size = n2) (hr2 : rowTy P ty2 n2 = true) :
    (results fn tmps).run P w = .ok (.tuple #[.agg cs, .agg cs2, v]) w := by
  obtain ⟨⟨d, h1, h2⟩, h3⟩ := rowTy_und hr
  obtain ⟨⟨d2, h12, h22⟩, h32⟩ := rowTy_und hr2
  have e1 := run_loadVar_row w g t ty cs (0, 0) d hg h1 (by cases d <;> simp_all) (by rw [h3, hn])
  have e2 := run_loadVar_row w g2 t2 ty2 cs2 (0, 0) d2 hg2 h12 (by cases d2 <;> simp_all) (by rw [h32, hn2])
  simp only [Array.getD_eq_getD_getElem?] at hp hq hv
  unfold results
  simp [h, hp, hq, hv, asAddr, e1, e2, Sem.run_bind, Sem.run_pure]
set_option maxRecDepth 100000 in
set_option maxHeartbeats 8000000 in
theorem drop_rm_no (hn : L.length = n) (hn2 : n ≤ 100000) (t k i : Int) (hv : i < 0 ∨ rfind t k i 0 L < 0) (w : World) (hM : Star F w) (hL : rowE 3 A n (rps L) ∈ F) :
    Calls Try.prog 67 #[.agg (rmV A n c B m d lo), .int .i64 t, .int .i64 k, .int .i64 i] w fun r w' => r = .returned (.tuple #[.agg (rmV A n c B m d lo), rpA (0, 0, []), .bool false]) ∧ Star F w' := by
  obtain ⟨v, hv2⟩ : ∃ v, rfind t k i 0 L = v := ⟨_, rfl⟩
  rw [hv2] at hv
  have HF : Hid (∀ (L2 : List SProp) (w : World), Star L2 w → rowE 3 A n (rps L) ∈ L2 → Calls Try.prog 71 #[.agg (rmV A n c B m d lo), .int .i64 t, .int .i64 k, .int .i64 i] w fun r w' => r = .returned (.int .i64 v) ∧ Star L2 w') := fun L2 w hM hx => by
    have := find_rm (B := B) (c := c) (m := m) (d := d) (lo := lo) hn (by omega) t k i w hM hx
    rwa [hv2] at this
  have tok1 : Hid True := trivial
  clear hv2 hn
  by_cases h0 : i < 0
  · clear hv
    go_enter Try.func67, Try.ntmps67
    go_wp2_with (first | (go_at_call 71; have hM0 := hM; clear hM; (first | (with_reducible refine (HF.out _ _ hM0 (by (repeat (first | assumption | (with_reducible exact mZ) | apply mS)); first | done | fail)).mono ?_) | fail); clear hM0; rintro _ w ⟨rfl, hM⟩) | (first | ((with_reducible refine at_box' ?_); (have hM0 := hM; clear hM; refine BigFrame.wpList_want (by rfl) fun K hK => ws_box hM0 rfl rfl (cs := rmV A n c B m d lo) rfl (fun g4 w hM => hK _ _ ?_); clear hM0 hK K)) | fail) | (first | ((with_reducible refine at_alloc' ?_); (have hM0 := hM; clear hM; refine BigFrame.wpList_want (by rfl) fun K hK => ws_alloc hM0 (t := 77) rfl #[.slice none 0 0, .slice none 0 0, .int .i64 0] info_rmz (fun g8 w hM => hK _ _ ?_); clear hM0 hK K)) | fail) | (have _t := tok1; (first | ((with_reducible refine at_alloc' ?_); (have hM0 := hM; clear hM; refine BigFrame.wpList_want (by rfl) fun K hK => ws_alloc hM0 (t := 85) rfl #[.int .i64 0, .int .i64 0, .string ByteArray.empty] info_rp (fun g9 w hM => hK _ _ ?_); clear hM0 hK K)) | fail); clear tok1) | (first | ((with_reducible refine at_alloc' ?_); (have hM0 := hM; clear hM; refine BigFrame.wpList_want (by rfl) fun K hK => ws_alloc hM0 (t := 85) rfl #[.int .i64 0, .int .i64 0, .string ByteArray.empty] info_rp (fun g12 w hM => hK _ _ ?_); clear hM0 hK K)) | fail) | (first | ((with_reducible refine at_load' ?_); (refine BigFrame.wpList_want (by rfl) fun K hK => ws_load hM rfl rfl (by (repeat (first | assumption | (with_reducible exact mZ) | apply mS)); first | done | fail) (n := 3) (by rfl) (by decide +kernel) (hK _ _ ?_); clear hK K)) | fail) | (first | ((with_reducible refine at_store' ?_); (have hM0 := hM; clear hM; refine BigFrame.wpList_want (by rfl) fun K hK => ws_store hM0 rfl rfl rfl (by (repeat (first | (with_reducible exact Take.head) | apply Take.tail)); first | done | fail) (n := 3) (by rfl) (by rfl) (by kernel_rfl) (by simp [Value.oneCell']) (fun w hM => hK _ _ ?_); clear hM0 hK K)) | fail) | (first | ((with_reducible refine at_load' ?_); (refine BigFrame.wpList_want (by rfl) fun K hK => ws_load1 hM rfl rfl (by (repeat (first | assumption | (with_reducible exact mZ) | apply mS)); first | done | fail) (by first | rfl | assumption) (by decide +kernel) (hK _ _ ?_); clear hK K)) | fail))
    refine bodyPost_ret (results_rows_tmp (P := Try.prog) (ty := 77) (ty2 := 85) rfl _ _ g8 g9 77 85 (rmV A n c B m d lo) #[.int .i64 0, .int .i64 0, .string ⟨#[]⟩] 3 3 (.bool false) rfl rfl rfl (hM.blk (by (repeat (first | assumption | (with_reducible exact mZ) | apply mS)); first | done | fail)) rfl (by decide +kernel) (hM.blk (by (repeat (first | assumption | (with_reducible exact mZ) | apply mS)); first | done | fail)) rfl (by decide +kernel)) rfl ?_
    exact ⟨rfl, hM.sel (by repeat (first | (with_reducible exact Sel.refl) | (with_reducible exact Take.head) | (with_reducible apply Take.tail) | (with_reducible apply Sel.cons) | (with_reducible apply Sel.drop)))⟩
  · have h1 : v < 0 := by omega
    have h2 : decide (i < 0) = false := by simp; omega
    clear hv
    go_enter Try.func67, Try.ntmps67
    go_wp2_with (first | (go_at_call 71; have hM0 := hM; clear hM; (first | (with_reducible refine (HF.out _ _ hM0 (by (repeat (first | assumption | (with_reducible exact mZ) | apply mS)); first | done | fail)).mono ?_) | fail); clear hM0; rintro _ w ⟨rfl, hM⟩) | (first | ((with_reducible refine at_box' ?_); (have hM0 := hM; clear hM; refine BigFrame.wpList_want (by rfl) fun K hK => ws_box hM0 rfl rfl (cs := rmV A n c B m d lo) rfl (fun g4 w hM => hK _ _ ?_); clear hM0 hK K)) | fail) | (first | ((with_reducible refine at_alloc' ?_); (have hM0 := hM; clear hM; refine BigFrame.wpList_want (by rfl) fun K hK => ws_alloc hM0 (t := 77) rfl #[.slice none 0 0, .slice none 0 0, .int .i64 0] info_rmz (fun g8 w hM => hK _ _ ?_); clear hM0 hK K)) | fail) | (have _t := tok1; (first | ((with_reducible refine at_alloc' ?_); (have hM0 := hM; clear hM; refine BigFrame.wpList_want (by rfl) fun K hK => ws_alloc hM0 (t := 85) rfl #[.int .i64 0, .int .i64 0, .string ByteArray.empty] info_rp (fun g9 w hM => hK _ _ ?_); clear hM0 hK K)) | fail); clear tok1) | (first | ((with_reducible refine at_alloc' ?_); (have hM0 := hM; clear hM; refine BigFrame.wpList_want (by rfl) fun K hK => ws_alloc hM0 (t := 85) rfl #[.int .i64 0, .int .i64 0, .string ByteArray.empty] info_rp (fun g12 w hM => hK _ _ ?_); clear hM0 hK K)) | fail) | (first | ((with_reducible refine at_load' ?_); (refine BigFrame.wpList_want (by rfl) fun K hK => ws_load hM rfl rfl (by (repeat (first | assumption | (with_reducible exact mZ) | apply mS)); first | done | fail) (n := 3) (by rfl) (by decide +kernel) (hK _ _ ?_); clear hK K)) | fail) | (first | ((with_reducible refine at_store' ?_); (have hM0 := hM; clear hM; refine BigFrame.wpList_want (by rfl) fun K hK => ws_store hM0 rfl rfl rfl (by (repeat (first | (with_reducible exact Take.head) | apply Take.tail)); first | done | fail) (n := 3) (by rfl) (by rfl) (by kernel_rfl) (by simp [Value.oneCell']) (fun w hM => hK _ _ ?_); clear hM0 hK K)) | fail) | (first | ((with_reducible refine at_load' ?_); (refine BigFrame.wpList_want (by rfl) fun K hK => ws_load1 hM rfl rfl (by (repeat (first | assumption | (with_reducible exact mZ) | apply mS)); first | done | fail) (by first | rfl | assumption) (by decide +kernel) (hK _ _ ?_); clear hK K)) | fail))
    refine bodyPost_ret (results_rows_tmp (P := Try.prog) (ty := 77) (ty2 := 85) rfl _ _ g8 g9 77 85 (rmV A n c B m d lo) #[.int .i64 0, .int .i64 0, .string ⟨#[]⟩] 3 3 (.bool false) rfl rfl rfl (hM.blk (by (repeat (first | assumption | (with_reducible exact mZ) | apply mS)); first | done | fail)) rfl (by decide +kernel) (hM.blk (by (repeat (first | assumption | (with_reducible exact mZ) | apply mS)); first | done | fail)) rfl (by decide +kernel)) rfl ?_
    exact ⟨rfl, hM.sel (by repeat (first | (with_reducible exact Sel.refl) | (with_reducible exact Take.head) | (with_reducible apply Take.tail) | (with_reducible apply Sel.cons) | (with_reducible apply Sel.drop)))⟩
set_option maxRecDepth 100000 in
set_option maxHeartbeats 8000000 in
theorem drop_rm_ok (hn : L.length = n) (hn2 : n ≤ 100000) (hc : n ≤ c) (t k i : Int) (hi : 0 ≤ i) (j : Nat) (hv : rfind t k i 0 L = j) {p : RP} (hp : L[j]? = some p) (w : World) (hM : Star F w) (hL : rowE 3 A n (rps L) ∈ F) :
    Calls Try.prog 67 #[.agg (rmV A n c B m d lo), .int .i64 t, .int .i64 k, .int .i64 i] w fun r w' => ∃ A' c', r = .returned (.tuple #[.agg (rmV A' (n - 1) c' B m d lo), rpA p, .bool true]) ∧ n - 1 ≤ c' ∧ Star (rowE 3 A' (n - 1) (rps (L.eraseIdx j)) :: F) w' := by
  have hjn : j < n := by have := (List.getElem?_eq_some_iff.1 hp).1; omega
  obtain ⟨ad, rfl⟩ : ∃ ad, A = some ad := by
    obtain ⟨ad, e, _⟩ := (hM.row (A := A) (n := n) (xs := rps L) (by (repeat (first | assumption | (with_reducible exact mZ) | apply mS)); first | done | fail)).2 (by omega)
    exact ⟨ad, e⟩
  have HF : Hid (∀ (L2 : List SProp) (w : World), Star L2 w → rowE 3 (some ad) n (rps L) ∈ L2 → Calls Try.prog 71 #[.agg (rmV (some ad) n c B m d lo), .int .i64 t, .int .i64 k, .int .i64 i] w fun r w' => r = .returned (.int .i64 j) ∧ Star L2 w') := fun L2 w hM hx => by
    have := find_rm (B := B) (c := c) (m := m) (d := d) (lo := lo) hn (by omega) t k i w hM hx
    rwa [hv] at this
  have HWO : Hid (∀ (L2 : List SProp) (w : World), Star L2 w → rowE 3 (some ad) n (rps L) ∈ L2 → Calls Try.prog 72 #[.agg (rmV (some ad) n c B m d lo), .int .i64 j] w fun r w' => ∃ A' c', r = .returned (.agg (rmV A' (n - 1) c' B m d lo)) ∧ n - 1 ≤ c' ∧ Star (rowE 3 A' (n - 1) (rps (L.eraseIdx j)) :: L2) w') := fun L2 w hM hx => without_rm hn hn2 hc j rfl hjn w hM hx
  obtain ⟨p1, p2, p3⟩ := p
  have HP : Hid (∀ q v, ([.int .i64 p1, .int .i64 p2, .string ⟨p3.toArray⟩] : List Value)[q]? = some v → (rps L)[j * 3 + q]? = some v) := rps_at hp
  have tok1 : Hid True := trivial
  have d1 : decide (i < 0) = false := by simp; omega
  have hjI : (j : Int) < (n : Int) := by omega
  have d2 : decide ((j : Int) < 0) = false := by simp
  clear hv hn hp hi
  go_enter Try.func67, Try.ntmps67
  go_wp2_with (first | (go_at_call 71; have hM0 := hM; clear hM; (first | (with_reducible refine (HF.out _ _ hM0 (by (repeat (first | assumption | (with_reducible exact mZ) | apply mS)); first | done | fail)).mono ?_) | fail); clear hM0; rintro _ w ⟨rfl, hM⟩) | ((with_reducible refine at_load' ?_); refine BigFrame.wpList_want (by rfl) fun K hK => ws_of_ex (ex_rowload_row (k := j) rfl rfl (hM.row (A := some ad) (n := n) (xs := rps L) (by (repeat (first | assumption | (with_reducible exact mZ) | apply mS)); first | done | fail)) [.int .i64 p1, .int .i64 p2, .string ⟨p3.toArray⟩] HP.out rfl hjn (by decide +kernel)) (hK _ _ ?_); clear hK K) | (first | ((with_reducible refine at_box' ?_); (have hM0 := hM; clear hM; refine BigFrame.wpList_want (by rfl) fun K hK => ws_box hM0 rfl rfl (cs := rmV (some ad) n c B m d lo) rfl (fun g4 w hM => hK _ _ ?_); clear hM0 hK K)) | fail) | (first | ((with_reducible refine at_alloc' ?_); (have hM0 := hM; clear hM; refine BigFrame.wpList_want (by rfl) fun K hK => ws_alloc hM0 (t := 77) rfl #[.slice none 0 0, .slice none 0 0, .int .i64 0] info_rmz (fun g8 w hM => hK _ _ ?_); clear hM0 hK K)) | fail) | (have _t := tok1; (first | ((with_reducible refine at_alloc' ?_); (have hM0 := hM; clear hM; refine BigFrame.wpList_want (by rfl) fun K hK => ws_alloc hM0 (t := 85) rfl #[.int .i64 0, .int .i64 0, .string ByteArray.empty] info_rp (fun g9 w hM => hK _ _ ?_); clear hM0 hK K)) | fail); clear tok1) | (first | ((with_reducible refine at_alloc' ?_); (have hM0 := hM; clear hM; refine BigFrame.wpList_want (by rfl) fun K hK => ws_alloc hM0 (t := 85) rfl #[.int .i64 0, .int .i64 0, .string ByteArray.empty] info_rp (fun g12 w hM => hK _ _ ?_); clear hM0 hK K)) | fail) | (first | ((with_reducible refine at_load' ?_); (refine BigFrame.wpList_want (by rfl) fun K hK => ws_load hM rfl rfl (by (repeat (first | assumption | (with_reducible exact mZ) | apply mS)); first | done | fail) (n := 3) (by rfl) (by decide +kernel) (hK _ _ ?_); clear hK K)) | fail) | (first | ((with_reducible refine at_store' ?_); (have hM0 := hM; clear hM; refine BigFrame.wpList_want (by rfl) fun K hK => ws_store hM0 rfl rfl rfl (by (repeat (first | (with_reducible exact Take.head) | apply Take.tail)); first | done | fail) (n := 3) (by rfl) (by rfl) (by kernel_rfl) (by simp [Value.oneCell']) (fun w hM => hK _ _ ?_); clear hM0 hK K)) | fail) | (first | ((with_reducible refine at_load' ?_); (refine BigFrame.wpList_want (by rfl) fun K hK => ws_load1 hM rfl rfl (by (repeat (first | assumption | (with_reducible exact mZ) | apply mS)); first | done | fail) (by first | rfl | assumption) (by decide +kernel) (hK _ _ ?_); clear hK K)) | fail))
  (refine region_RS ([cellsE g4 77 (rmV (some ad) n c B m d lo), cellsE g12 85 #[.int .i64 p1, .int .i64 p2, .string ⟨p3.toArray⟩], rowE 3 (some ad) n (rps L)]) [] (by kernel_rfl) hM ?_; clear hM; change RS _ _ _ _ _ _ 7 (Array.replicate 7 false) _ _; refine RS_take (i := 0) rfl (by decide +kernel) (fun _ _ _ h => h) (by first | (intro x hx; (repeat (first | exact hx | apply mS)); done) | ((repeat (refine List.forall_mem_cons.2 ⟨(by (repeat (first | assumption | (with_reducible exact mZ) | apply mS)); first | done | fail), ?_⟩)); intro x hx; first | (cases hx; done) | ((repeat (first | exact hx | apply mS)); done))) (stab_read (by rfl) (fun L w hL hM => (ex_load hM rfl rfl (hL _ (by (repeat (first | assumption | (with_reducible exact mZ) | apply mS)); first | done | fail)) (n := 3) rfl (by decide +kernel)))) ?_; simp only [Act.put, List.setIfInBounds_toArray, List.set_cons_zero, List.set_cons_succ]; refine RS_take (i := 1) rfl (by decide +kernel) (fun _ _ _ h => h) (by first | (intro x hx; (repeat (first | exact hx | apply mS)); done) | ((repeat (refine List.forall_mem_cons.2 ⟨(by (repeat (first | assumption | (with_reducible exact mZ) | apply mS)); first | done | fail), ?_⟩)); intro x hx; first | (cases hx; done) | ((repeat (first | exact hx | apply mS)); done))) (stab_pure (by rfl) (fun w => (by go_simp; try with_reducible rfl))) ?_; simp only [Act.put, List.setIfInBounds_toArray, List.set_cons_zero, List.set_cons_succ]; refine RS_take (i := 3) rfl (by decide +kernel) (fun _ _ _ h => h) (by first | (intro x hx; (repeat (first | exact hx | apply mS)); done) | ((repeat (refine List.forall_mem_cons.2 ⟨(by (repeat (first | assumption | (with_reducible exact mZ) | apply mS)); first | done | fail), ?_⟩)); intro x hx; first | (cases hx; done) | ((repeat (first | exact hx | apply mS)); done))) (stab_read (by rfl) (fun L w hL hM => (ex_load hM rfl rfl (hL _ (by (repeat (first | assumption | (with_reducible exact mZ) | apply mS)); first | done | fail)) (n := 3) rfl (by decide +kernel)))) ?_; simp only [Act.put, List.setIfInBounds_toArray, List.set_cons_zero, List.set_cons_succ]; refine RS_one (i := 2) (by decide +kernel) rfl (by rfl) (.inl (by first | (intro x hx; (repeat (first | exact hx | apply mS)); done) | ((repeat (refine List.forall_mem_cons.2 ⟨(by (repeat (first | assumption | (with_reducible exact mZ) | apply mS)); first | done | fail), ?_⟩)); intro x hx; first | (cases hx; done) | ((repeat (first | exact hx | apply mS)); done)))) (fun w K hM0 hK => ?_); refine ws_call (by go_simp; try with_reducible rfl) (HWO.out _ w hM0 (by (repeat (first | assumption | (with_reducible exact mZ) | apply mS)); first | done | fail)) (fun r w2 hR => ?_); obtain ⟨A', c', rfl, hcc, hM⟩ := hR; refine ⟨_, rfl, hK _ _ _ hM ?_⟩; clear hM hM0 hK K; simp only [Act.put, List.setIfInBounds_toArray, List.set_cons_zero, List.set_cons_succ]; refine RS_one (i := 4) (by decide +kernel) rfl (by rfl) (.inl (by first | (intro x hx; (repeat (first | exact hx | apply mS)); done) | ((repeat (refine List.forall_mem_cons.2 ⟨(by (repeat (first | assumption | (with_reducible exact mZ) | apply mS)); first | done | fail), ?_⟩)); intro x hx; first | (cases hx; done) | ((repeat (first | exact hx | apply mS)); done)))) (fun w K hM0 hK => ?_); refine ws_store hM0 rfl rfl rfl (by (repeat (first | (with_reducible exact Take.head) | apply Take.tail)); first | done | fail) (n := 3) (by rfl) (by rfl) (by kernel_rfl) (by simp [Value.oneCell']) (fun w hM => hK _ _ _ hM ?_); clear hM hM0 hK K; simp only [Act.put, List.setIfInBounds_toArray, List.set_cons_zero, List.set_cons_succ]; refine RS_one (i := 5) (by decide +kernel) rfl (by rfl) (.inl (by first | (intro x hx; (repeat (first | exact hx | apply mS)); done) | ((repeat (refine List.forall_mem_cons.2 ⟨(by (repeat (first | assumption | (with_reducible exact mZ) | apply mS)); first | done | fail), ?_⟩)); intro x hx; first | (cases hx; done) | ((repeat (first | exact hx | apply mS)); done)))) (fun w K hM0 hK => ?_); refine ws_store hM0 rfl rfl rfl (by (repeat (first | (with_reducible exact Take.head) | apply Take.tail)); first | done | fail) (n := 3) (by rfl) (by rfl) (by kernel_rfl) (by simp [Value.oneCell']) (fun w hM => hK _ _ _ hM ?_); clear hM hM0 hK K; simp only [Act.put, List.setIfInBounds_toArray, List.set_cons_zero, List.set_cons_succ]; refine RS_take (i := 6) rfl (by decide +kernel) (fun _ _ _ h => h) (by first | (intro x hx; (repeat (first | exact hx | apply mS)); done) | ((repeat (refine List.forall_mem_cons.2 ⟨(by (repeat (first | assumption | (with_reducible exact mZ) | apply mS)); first | done | fail), ?_⟩)); intro x hx; first | (cases hx; done) | ((repeat (first | exact hx | apply mS)); done))) (stab_pure (by rfl) (fun w => (by go_simp; try with_reducible rfl))) ?_; simp only [Act.put, List.setIfInBounds_toArray, List.set_cons_zero, List.set_cons_succ]; refine RS_done (by decide +kernel) (.inl (by first | (intro x hx; (repeat (first | exact hx | apply mS)); done) | ((repeat (refine List.forall_mem_cons.2 ⟨(by (repeat (first | assumption | (with_reducible exact mZ) | apply mS)); first | done | fail), ?_⟩)); intro x hx; first | (cases hx; done) | ((repeat (first | exact hx | apply mS)); done)))) (fun w hM => ?_))
  all_goals (
    go_wp2_with fail
    refine bodyPost_ret (results_rows_tmp (P := Try.prog) (ty := 77) (ty2 := 85) rfl _ _ g8 g9 77 85 (rmV A' (n - 1) c' B m d lo) #[.int .i64 p1, .int .i64 p2, .string ⟨p3.toArray⟩] 3 3 (.bool true) rfl rfl rfl (hM.blk (by (repeat (first | assumption | (with_reducible exact mZ) | apply mS)); first | done | fail)) rfl (by decide +kernel) (hM.blk (by (repeat (first | assumption | (with_reducible exact mZ) | apply mS)); first | done | fail)) rfl (by decide +kernel)) rfl ?_
    exact ⟨A', c', rfl, hcc, hM.sel (by repeat (first | (with_reducible exact Sel.refl) | (with_reducible exact Take.head) | (with_reducible apply Take.tail) | (with_reducible apply Sel.cons) | (with_reducible apply Sel.drop)))⟩)
end
end Go.Proofs.Ytbejifbiffeamaa
set_option linter.unusedSimpArgs false
set_option linter.unusedVariables false
namespace Go.Proofs.Ytbejifbiffeamaa
open Go.RowKit
attribute [local go_sem] extract_mid extract_drop bget bsize wrap64_u8 i64_u8 u64_u8 bappend
theorem rfind_spec {t k : Int} : ∀ (l : List RP) (i : Int) (j : Nat), 0 ≤ rfind t k i j l → ∃ q p, rfind t k i j l = ((j + q : Nat) : Int) ∧ l[q]? = some p ∧ rmine t k p = true
  | [], i, j, h => by exact absurd h (by unfold rfind; decide)
  | p :: l, i, j, h => by
    unfold rfind at h ⊢
    by_cases hm : rmine t k p = true
    · rw [if_pos hm] at h ⊢
      by_cases hi : i = 0
      · rw [if_pos hi]
        exact ⟨0, p, by simp, rfl, hm⟩
      · rw [if_neg hi] at h ⊢
        obtain ⟨q, p', h1, h2, h3⟩ := rfind_spec l (i - 1) (j + 1) h
        exact ⟨q + 1, p', by rw [h1]; congr 1; omega, h2, h3⟩
    · rw [if_neg hm] at h ⊢
      obtain ⟨q, p', h1, h2, h3⟩ := rfind_spec l i (j + 1) h
      exact ⟨q + 1, p', by rw [h1]; congr 1; omega, h2, h3⟩
theorem Star.own_int {L : List SProp} {w : World} {A : Option Addr} {n c : Nat} {xs : List Value} (h : Star (ownE 3 1 A n c xs :: L) w) (hn : 0 < n) : ∃ g sp, A = some ⟨g, 0, none⟩ ∧ n ≤ c ∧ Star (cellsE g 3 (xs ++ sp).toArray :: L) w := by
  rcases h.head.2 with ⟨_, h0⟩ | ⟨g, cap, cur, e1, _, _, h4, _⟩
  · omega
  · injection e1 with e1 _ e3
    subst e1
    obtain ⟨sp, h5⟩ := h.own_cells
    exact ⟨g, sp, rfl, by omega, h5⟩
theorem Star.ivs_nil {L : List SProp} {w : World} {g : Nat} {l : List Int} {sp : List Value} (h : Star (cellsE g 3 (ivs [] ++ ivs l ++ sp).toArray :: L) w) : Star (cellsE g 3 (ivs l ++ sp).toArray :: L) w := h
theorem ivs_set (l : List Int) (sp : List Value) (i : Nat) (v : Int) (hi : i < l.length) : (ivs l ++ sp).toArray.setIfInBounds i (.int .i64 v) = (ivs (l.set i v) ++ sp).toArray := by
  rw [List.setIfInBounds_toArray, List.set_append_left _ _ (by simpa [ivs] using hi)]
  unfold ivs
  rw [List.map_set]
  rfl
theorem Star.ints_row {L : List SProp} {w : World} {g n : Nat} {l : List Int} {sp : List Value} (h : Star (cellsE g 3 (ivs l ++ sp).toArray :: L) w) (hn : l.length = n) : Star (rowE 1 (some ⟨g, 0, none⟩) n (ivs l) :: L) w := by
  have h1 := Star.row_of_blk (n := (ivs l ++ sp).length) (size := 1) h (by simp)
  have h2 := h1.row_take (k := n) List.mem_cons_self (by simp [ivs, hn])
  have e : (ivs l ++ sp).toArray.toList.take n = ivs l := by
    rw [List.toList_toArray, List.take_append_of_le_length (by simp [ivs, hn]), List.take_of_length_le (by simp [ivs, hn])]
  rw [e] at h2
  exact h2.sel (by repeat (first | (with_reducible exact Sel.refl) | (with_reducible exact Take.head) | (with_reducible apply Take.tail) | (with_reducible apply Sel.cons) | (with_reducible apply Sel.drop)))
/-- A hit: of a turn, from an address. -/
def rhit (L : List RP) (t z : Int) (T q : Nat) : Prop := 0 ≤ rfind t q 0 0 L ∧ (T = 1 ∨ z < (q : Int))
section
variable {F : List SProp} {A B : Option Addr} {n c m d : Nat} {lo : Int} {L : List RP} {la : List Int}
set_option maxRecDepth 100000 in
set_option maxHeartbeats 8000000 in
theorem take_rm_out (t : Int) (ht : ¬ (0 ≤ t ∧ t < (m : Int))) (w : World) (hM : Star F w) :
    Calls Try.prog 42 #[.agg (rmV A n c B m d lo), .int .i64 t] w fun r w' => r = .returned (.tuple #[.agg (rmV A n c B m d lo), rpA (0, 0, []), .bool false]) ∧ Star F w' := by
  have HI1 : Hid (∀ (L : List SProp) (w : World), Star L w → Calls Try.prog 70 #[.agg (rmV A n c B m d lo), .int .i64 t] w fun r w' => r = .returned (.bool false) ∧ Star L w') := fun L w hM => in_rm t (decide_eq_false ht) w hM
  clear ht
  go_enter Try.func42, Try.ntmps42
  go_wp2_with (first | (go_at_call 70; have hM0 := hM; clear hM; (first | (with_reducible refine (HI1.out _ _ hM0).mono ?_) | fail); clear hM0; rintro _ w ⟨rfl, hM⟩) | (first | ((with_reducible refine at_box' ?_); (have hM0 := hM; clear hM; refine BigFrame.wpList_want (by rfl) fun K hK => ws_box hM0 rfl rfl (cs := rmV A n c B m d lo) rfl (fun g2 w hM => hK _ _ ?_); clear hM0 hK K)) | fail) | (first | ((with_reducible refine at_alloc' ?_); (have hM0 := hM; clear hM; refine BigFrame.wpList_want (by rfl) fun K hK => ws_alloc hM0 (t := 77) rfl #[.slice none 0 0, .slice none 0 0, .int .i64 0] info_rmz (fun g4 w hM => hK _ _ ?_); clear hM0 hK K)) | fail) | (first | ((with_reducible refine at_alloc' ?_); (have hM0 := hM; clear hM; refine BigFrame.wpList_want (by rfl) fun K hK => ws_alloc hM0 (t := 85) rfl #[.int .i64 0, .int .i64 0, .string ByteArray.empty] info_rp (fun g5 w hM => hK _ _ ?_); clear hM0 hK K)) | fail) | (first | ((with_reducible refine at_load' ?_); (refine BigFrame.wpList_want (by rfl) fun K hK => ws_load hM rfl rfl (by (repeat (first | assumption | (with_reducible exact mZ) | apply mS)); first | done | fail) (n := 3) (by rfl) (by decide +kernel) (hK _ _ ?_); clear hK K)) | fail) | (first | ((with_reducible refine at_store' ?_); (have hM0 := hM; clear hM; refine BigFrame.wpList_want (by rfl) fun K hK => ws_store hM0 rfl rfl rfl (by (repeat (first | (with_reducible exact Take.head) | apply Take.tail)); first | done | fail) (n := 3) (by rfl) (by rfl) (by kernel_rfl) (by simp [Value.oneCell']) (fun w hM => hK _ _ ?_); clear hM0 hK K)) | fail))
  refine bodyPost_ret (results_rows_tmp (P := Try.prog) (ty := 77) (ty2 := 85) rfl _ _ g4 g5 77 85 (rmV A n c B m d lo) #[.int .i64 0, .int .i64 0, .string ⟨#[]⟩] 3 3 (.bool false) rfl rfl rfl (hM.blk (by (repeat (first | assumption | (with_reducible exact mZ) | apply mS)); first | done | fail)) rfl (by decide +kernel) (hM.blk (by (repeat (first | assumption | (with_reducible exact mZ) | apply mS)); first | done | fail)) rfl (by decide +kernel)) rfl ?_
  exact ⟨rfl, hM.sel (by repeat (first | (with_reducible exact Sel.refl) | (with_reducible exact Take.head) | (with_reducible apply Take.tail) | (with_reducible apply Sel.cons) | (with_reducible apply Sel.drop)))⟩
set_option maxRecDepth 100000 in
set_option maxHeartbeats 16000000 in
theorem take_rm (hn : L.length = n) (hn2 : n ≤ 100000) (hc : n ≤ c) (hla : la.length = m) (hm : m ≤ 64) {t z : Int} (tn : Nat) (ht0 : t = tn) (ht : tn < m) (hz : la[tn]? = some z) (w : World) (hM : Star F w) (hL : rowE 3 A n (rps L) ∈ F) (hB : rowE 1 B m (ivs la) ∈ F) :
    Calls Try.prog 42 #[.agg (rmV A n c B m d lo), .int .i64 t] w fun r w' => ((∀ q : Nat, q < m → ¬ rhit L t z 1 q) ∧ r = .returned (.tuple #[.agg (rmV A n c B m d lo), rpA (0, 0, []), .bool false]) ∧ Star F w') ∨ (∃ T q : Nat, ∃ j : Nat, ∃ p, T < 2 ∧ q < m ∧ rhit L t z T q ∧ (∀ q' : Nat, q' < q → ¬ rhit L t z T q') ∧ (T = 1 → ∀ q' : Nat, q' < m → ¬ rhit L t z 0 q') ∧ rfind t q 0 0 L = j ∧ L[j]? = some p ∧ ∃ A' c' B' d', r = .returned (.tuple #[.agg (rmV A' (n - 1) c' B' m d' lo), rpA p, .bool true]) ∧ n - 1 ≤ c' ∧ m ≤ d' ∧ Star (rowE 1 B' m (ivs (la.set tn q)) :: rowE 3 A' (n - 1) (rps (L.eraseIdx j)) :: F) w') := by
  obtain ⟨ab, rfl⟩ : ∃ ab, B = some ab := by
    obtain ⟨ad, e, _⟩ := (hM.row (A := B) (n := m) (xs := ivs la) (by (repeat (first | assumption | (with_reducible exact mZ) | apply mS)); first | done | fail)).2 (by omega)
    exact ⟨ad, e⟩
  have HI1 : Hid (∀ (L : List SProp) (w : World), Star L w → Calls Try.prog 70 #[.agg (rmV A n c (some ab) m d lo), .int .i64 t] w fun r w' => r = .returned (.bool true) ∧ Star L w') := fun L w hM => in_rm t (decide_eq_true (by omega)) w hM
  have HF : Hid (∀ (q : Int) (L2 : List SProp) (w : World), Star L2 w → rowE 3 A n (rps L) ∈ L2 → Calls Try.prog 71 #[.agg (rmV A n c (some ab) m d lo), .int .i64 t, .int .i64 q, .int .i64 0] w fun r w' => r = .returned (.int .i64 (rfind t q 0 0 L)) ∧ Star L2 w') := fun q L2 w hM hx => find_rm (B := some ab) (c := c) (m := m) (d := d) (lo := lo) hn (by omega) t q 0 w hM hx
  have HWO : Hid (∀ (j : Nat), j < n → ∀ (L2 : List SProp) (w : World), Star L2 w → rowE 3 A n (rps L) ∈ L2 → Calls Try.prog 72 #[.agg (rmV A n c (some ab) m d lo), .int .i64 j] w fun r w' => ∃ A' c', r = .returned (.agg (rmV A' (n - 1) c' (some ab) m d lo)) ∧ n - 1 ≤ c' ∧ Star (rowE 3 A' (n - 1) (rps (L.eraseIdx j)) :: L2) w') := fun j hj L2 w hM hx => without_rm hn hn2 hc j rfl hj w hM hx
  have HN := Lib.hid hn
  have HLA := Lib.hid hla
  have HZ : Hid ((ivs la)[tn]? = some (.int .i64 z)) := by show _ = _; unfold ivs; rw [List.getElem?_map, hz]; rfl
  have tok1 : Hid True := trivial
  have HO := Lib.hid ivs_one1
  clear hn hc hla hz
  subst ht0
  have htI : (tn : Int) < (m : Int) := by omega
  go_enter Try.func42, Try.ntmps42
  go_wp2_with (first | (go_at_call 70; have hM0 := hM; clear hM; (first | (with_reducible refine (HI1.out _ _ hM0).mono ?_) | fail); clear hM0; rintro _ w ⟨rfl, hM⟩) | (first | ((with_reducible refine at_box' ?_); (have hM0 := hM; clear hM; refine BigFrame.wpList_want (by rfl) fun K hK => ws_box hM0 rfl rfl (cs := rmV A n c (some ab) m d lo) rfl (fun g2 w hM => hK _ _ ?_); clear hM0 hK K)) | fail) | (first | ((with_reducible refine at_alloc' ?_); (have hM0 := hM; clear hM; refine BigFrame.wpList_want (by rfl) fun K hK => ws_alloc hM0 (t := 77) rfl #[.slice none 0 0, .slice none 0 0, .int .i64 0] info_rmz (fun g4 w hM => hK _ _ ?_); clear hM0 hK K)) | fail) | (have _t := tok1; (first | ((with_reducible refine at_alloc' ?_); (have hM0 := hM; clear hM; refine BigFrame.wpList_want (by rfl) fun K hK => ws_alloc hM0 (t := 85) rfl #[.int .i64 0, .int .i64 0, .string ByteArray.empty] info_rp (fun g5 w hM => hK _ _ ?_); clear hM0 hK K)) | fail); clear tok1) | (first | ((with_reducible refine at_load' ?_); (refine BigFrame.wpList_want (by rfl) fun K hK => ws_load hM rfl rfl (by (repeat (first | assumption | (with_reducible exact mZ) | apply mS)); first | done | fail) (n := 3) (by rfl) (by decide +kernel) (hK _ _ ?_); clear hK K)) | fail) | (first | ((with_reducible refine at_store' ?_); (have hM0 := hM; clear hM; refine BigFrame.wpList_want (by rfl) fun K hK => ws_store hM0 rfl rfl rfl (by (repeat (first | (with_reducible exact Take.head) | apply Take.tail)); first | done | fail) (n := 3) (by rfl) (by rfl) (by kernel_rfl) (by simp [Value.oneCell']) (fun w hM => hK _ _ ?_); clear hM0 hK K)) | fail))
  go_loopw [7] (fun tu wr => ∃ T : Nat, tu = .int .i64 T ∧ T ≤ 2 ∧ Hid (∀ T' : Nat, T' < T → ∀ q : Nat, q < m → ¬ rhit L tn z T' q) ∧ Star (cellsE g5 85 #[.int .i64 0, .int .i64 0, .string ByteArray.empty] :: cellsE g4 77 #[.slice none 0 0, .slice none 0 0, .int .i64 0] :: cellsE g2 77 (rmV A n c (some ab) m d lo) :: F) wr) (fun tu _ => 2 - (intOf tu).toNat)
  case atStart => exact ⟨0, rfl, by omega, fun T' h => by omega, hM.sel (by repeat (first | (with_reducible exact Sel.refl) | (with_reducible exact Take.head) | (with_reducible apply Take.tail) | (with_reducible apply Sel.cons) | (with_reducible apply Sel.drop)))⟩
  case round =>
    clear hM
    obtain ⟨T, rfl, hT, HNO, hM⟩ := hrel
    by_cases hT2 : T < 2
    · have hTI : (T : Int) < 2 := by omega
      go_wp2_with fail
      obtain ⟨wq, rfl⟩ : ∃ wq : World, wq = wr := ⟨_, rfl⟩
      go_loopw [8] (fun fr wr2 => ∃ q : Nat, fr = .int .i64 q ∧ q ≤ m ∧ Hid (∀ q' : Nat, q' < q → ¬ rhit L tn z T q') ∧ Star (cellsE g5 85 #[.int .i64 0, .int .i64 0, .string ByteArray.empty] :: cellsE g4 77 #[.slice none 0 0, .slice none 0 0, .int .i64 0] :: cellsE g2 77 (rmV A n c (some ab) m d lo) :: F) wr2) (fun fr _ => m - (intOf fr).toNat)
      case atStart => exact ⟨0, rfl, by omega, fun q' h => by omega, hM⟩
      case round =>
        clear hM
        obtain ⟨q, rfl, hq, HNQ, hM⟩ := hrel
        by_cases hqm : q < m
        · have hqI : (q : Int) < (m : Int) := by omega
          obtain ⟨v, hv⟩ : ∃ v, rfind tn q 0 0 L = v := ⟨_, rfl⟩
          have HFQ : Hid (∀ (L2 : List SProp) (w : World), Star L2 w → rowE 3 A n (rps L) ∈ L2 → Calls Try.prog 71 #[.agg (rmV A n c (some ab) m d lo), .int .i64 tn, .int .i64 q, .int .i64 0] w fun r w' => r = .returned (.int .i64 v) ∧ Star L2 w') := fun L2 w hM hx => by rw [← hv]; exact HF.out q L2 w hM hx
          have HV := Lib.hid hv
          clear hv
          by_cases hv0 : 0 ≤ v
          · obtain ⟨j, p, hj, hp, _⟩ := rfind_spec L 0 0 (by rw [HV.out]; exact hv0)
            rw [HV.out, Nat.zero_add] at hj
            have HVJ := Lib.hid hj
            have HPG := Lib.hid hp
            have hjn : j < n := by have := (List.getElem?_eq_some_iff.1 hp).1; rw [HN.out] at this; exact this
            obtain ⟨p1, p2, p3⟩ := p
            have HP : Hid (∀ q v, ([.int .i64 p1, .int .i64 p2, .string ⟨p3.toArray⟩] : List Value)[q]? = some v → (rps L)[j * 3 + q]? = some v) := rps_at hp
            have HWJ := Lib.hid (HWO.out j hjn)
            obtain ⟨ad, rfl⟩ : ∃ ad, A = some ad := by
              obtain ⟨ad, e, _⟩ := (hM.row (A := A) (n := n) (xs := rps L) (by (repeat (first | assumption | (with_reducible exact mZ) | apply mS)); first | done | fail)).2 (by omega)
              exact ⟨ad, e⟩
            have HTL : Hid (tn < la.length) := by rw [HLA.out]; exact ht
            have HSZ : Hid (∀ sp : List Value, tn < (ivs la).length + sp.length) := fun sp => by
              have h1 := HTL.out
              have e : (ivs la).length = la.length := by simp [ivs]
              omega
            have hjI : (j : Int) < (n : Int) := by omega
            subst hj
            have dv : decide ((0 : Int) ≤ (j : Int)) = true := by simp
            have HHV : Hid (0 ≤ rfind tn q 0 0 L) := by rw [HV.out]; exact hv0
            clear hv0 hp
            by_cases hno : T = 0 ∧ ¬ z < (q : Int)
            · obtain ⟨hT0, hzq⟩ := hno
              have e1 : ((T : Int) == 1) = false := by simp; omega
              have e2 : decide ((T : Int) = 1) = false := by simp; omega
              have e3 : decide (T = 1) = false := by simp; omega
              have HNX : Hid (∀ q' : Nat, q' < q + 1 → ¬ rhit L tn z T q') := fun q' h => by
                by_cases e : q' = q
                · subst e; exact fun hh => by rcases hh.2 with h2 | h2; omega; exact hzq h2
                · exact HNQ.out q' (by omega)
              have dz : decide (z < (q : Int)) = false := by simpa using hzq
              clear hzq hT0
              go_wp2_with (first | (go_at_call 71; have hM0 := hM; clear hM; (first | (with_reducible refine (HFQ.out _ _ hM0 (by (repeat (first | assumption | (with_reducible exact mZ) | apply mS)); first | done | fail)).mono ?_) | fail); clear hM0; rintro _ w ⟨rfl, hM⟩) | ((with_reducible refine at_load' ?_); refine BigFrame.wpList_want (by rfl) fun K hK => ws_rowload (ad := ab) (k := tn) rfl rfl (hM.row (A := some ab) (n := m) (xs := ivs la) (by (repeat (first | assumption | (with_reducible exact mZ) | apply mS)); first | done | fail)) HZ.out (by decide +kernel) (hK _ _ ?_); clear hK K) | (first | ((with_reducible refine at_load' ?_); (refine BigFrame.wpList_want (by rfl) fun K hK => ws_load hM rfl rfl (by (repeat (first | assumption | (with_reducible exact mZ) | apply mS)); first | done | fail) (n := 3) (by rfl) (by decide +kernel) (hK _ _ ?_); clear hK K)) | fail) | (first | ((with_reducible refine at_load' ?_); (refine BigFrame.wpList_want (by rfl) fun K hK => ws_load1 hM rfl rfl (by (repeat (first | assumption | (with_reducible exact mZ) | apply mS)); first | done | fail) (by first | rfl | assumption) (by decide +kernel) (hK _ _ ?_); clear hK K)) | fail))
              go_roundw
              case rel => exact ⟨q + 1, rfl, by omega, HNX, hM⟩
              case measure => simp [intOf]; omega
            · rcases (by omega : T = 0 ∨ T = 1) with rfl | rfl
              · have hzq : z < (q : Int) := by
                  by_cases h : z < (q : Int)
                  · exact h
                  · exact absurd ⟨rfl, h⟩ hno
                have HHT : Hid (rhit L tn z 0 q) := ⟨HHV.out, .inr hzq⟩
                have dz : decide (z < (q : Int)) = true := by simpa using hzq
                go_wp2_with (first | (go_at_call 71; have hM0 := hM; clear hM; (first | (with_reducible refine (HFQ.out _ _ hM0 (by (repeat (first | assumption | (with_reducible exact mZ) | apply mS)); first | done | fail)).mono ?_) | fail); clear hM0; rintro _ w ⟨rfl, hM⟩) | (go_at_call 72; have hM0 := hM; clear hM; (first | (with_reducible refine (HWJ.out _ _ hM0 (by (repeat (first | assumption | (with_reducible exact mZ) | apply mS)); first | done | fail)).mono ?_) | fail); clear hM0; rintro _ w ⟨A', c', rfl, hcc, hM⟩) | ((with_reducible refine at_load' ?_); refine BigFrame.wpList_want (by rfl) fun K hK => ws_of_ex (ex_rowload_row (k := j) rfl rfl (hM.row (A := some ad) (n := n) (xs := rps L) (by (repeat (first | assumption | (with_reducible exact mZ) | apply mS)); first | done | fail)) [.int .i64 p1, .int .i64 p2, .string ⟨p3.toArray⟩] HP.out rfl hjn (by decide +kernel)) (hK _ _ ?_); clear hK K) | ((with_reducible refine at_load' ?_); refine BigFrame.wpList_want (by rfl) fun K hK => ws_rowload (ad := ab) (k := tn) rfl rfl (hM.row (A := some ab) (n := m) (xs := ivs la) (by (repeat (first | assumption | (with_reducible exact mZ) | apply mS)); first | done | fail)) HZ.out (by decide +kernel) (hK _ _ ?_); clear hK K) | (first | ((with_reducible refine at_alloc' ?_); (have hM0 := hM; clear hM; refine BigFrame.wpList_want (by rfl) fun K hK => ws_alloc hM0 (t := 85) rfl #[.int .i64 0, .int .i64 0, .string ByteArray.empty] info_rp (fun g10 w hM => hK _ _ ?_); clear hM0 hK K)) | fail) | (first | ((with_reducible refine at_slice' ?_); (have hM0 := hM; clear hM; refine BigFrame.wpList_want (by rfl) fun K hK => ws_slice_own hM0 (n := 0) rfl 3 1 (.int .i64 0) [] Try.underlying23 (by kernel_rfl) rfl (by simp [Value.cells, iv, sv, bv]) (by rfl) (by decide) (by decide) (cs := ivs []) (by rfl) (fun g6 w hM => hK _ _ ?_); clear hM0 hK K)) | fail) | ((first | ((with_reducible refine at_call' ?_); (have hM0 := hM; clear hM; refine BigFrame.wpList_want (by rfl) fun K hK => ws_append hM0 rfl rfl rfl 3 ((.int .i64 0)) 1 8 Try.underlying23 (by kernel_rfl) (by rfl) (by decide) (by (repeat (first | (with_reducible exact Take.head) | apply Take.tail)); first | done | fail) (by first | (apply Star.row hM0; (repeat (first | assumption | (with_reducible exact mZ) | apply mS)); done) | (apply Star.own hM0; (repeat (first | assumption | (with_reducible exact mZ) | apply mS)); done) | (apply Star.arr hM0; (focus ((repeat (first | assumption | (with_reducible exact mZ) | apply mS)); done)); assumption)) (HO.out _) ((by omega)) (fun A1 c1 w hM hnil => hK _ _ ?_); clear hM0 hK K)) | fail); rw [Nat.zero_add] at hM; obtain ⟨g', sp, rfl, hd', hM2⟩ := Star.own_int hM (by omega); clear hM; have hM := Star.ivs_nil hM2; clear hM2) | (first | ((with_reducible refine at_store' ?_); (have hM0 := hM; clear hM; refine BigFrame.wpList_want (by rfl) fun K hK => ws_store1 hM0 rfl rfl (by go_simp; rfl) (by first | rfl | assumption) (by (repeat (first | (with_reducible exact Take.head) | apply Take.tail)); first | done | fail) (by simpa using HSZ.out sp) (by kernel_rfl) (by exact ivs_set la sp tn q HTL.out) (fun w hM => hK _ _ ?_); clear hM0 hK K)) | fail) | (first | ((with_reducible refine at_store' ?_); (have hM0 := hM; clear hM; refine BigFrame.wpList_want (by rfl) fun K hK => ws_store1 hM0 rfl rfl (by go_simp; rfl) (by first | rfl | assumption) (by (repeat (first | (with_reducible exact Take.head) | apply Take.tail)); first | done | fail) (by simp) (by kernel_rfl) (by simp only [List.setIfInBounds_toArray, List.set_cons_zero, List.set_cons_succ]; rfl) (fun w hM => hK _ _ ?_); clear hM0 hK K)) | fail) | (first | ((with_reducible refine at_load' ?_); (refine BigFrame.wpList_want (by rfl) fun K hK => ws_load hM rfl rfl (by (repeat (first | assumption | (with_reducible exact mZ) | apply mS)); first | done | fail) (n := 3) (by rfl) (by decide +kernel) (hK _ _ ?_); clear hK K)) | fail) | (first | ((with_reducible refine at_store' ?_); (have hM0 := hM; clear hM; refine BigFrame.wpList_want (by rfl) fun K hK => ws_store hM0 rfl rfl rfl (by (repeat (first | (with_reducible exact Take.head) | apply Take.tail)); first | done | fail) (n := 3) (by rfl) (by rfl) (by kernel_rfl) (by simp [Value.oneCell']) (fun w hM => hK _ _ ?_); clear hM0 hK K)) | fail) | (first | ((with_reducible refine at_load' ?_); (refine BigFrame.wpList_want (by rfl) fun K hK => ws_load1 hM rfl rfl (by (repeat (first | assumption | (with_reducible exact mZ) | apply mS)); first | done | fail) (by first | rfl | assumption) (by decide +kernel) (hK _ _ ?_); clear hK K)) | fail))
                (refine region_RS ([cellsE g2 77 (rmV A' (n - 1) c' (some ⟨g', 0, none⟩) m c1 lo), cellsE g10 85 #[.int .i64 p1, .int .i64 p2, .string ⟨p3.toArray⟩]]) [] (by kernel_rfl) hM ?_; clear hM; change RS _ _ _ _ _ _ 5 (Array.replicate 5 false) _ _; refine RS_take (i := 0) rfl (by decide +kernel) (fun _ _ _ h => h) (by first | (intro x hx; (repeat (first | exact hx | apply mS)); done) | ((repeat (refine List.forall_mem_cons.2 ⟨(by (repeat (first | assumption | (with_reducible exact mZ) | apply mS)); first | done | fail), ?_⟩)); intro x hx; first | (cases hx; done) | ((repeat (first | exact hx | apply mS)); done))) (stab_read (by rfl) (fun L w hL hM => (ex_load hM rfl rfl (hL _ (by (repeat (first | assumption | (with_reducible exact mZ) | apply mS)); first | done | fail)) (n := 3) rfl (by decide +kernel)))) ?_; simp only [Act.put, List.setIfInBounds_toArray, List.set_cons_zero, List.set_cons_succ]; refine RS_take (i := 1) rfl (by decide +kernel) (fun _ _ _ h => h) (by first | (intro x hx; (repeat (first | exact hx | apply mS)); done) | ((repeat (refine List.forall_mem_cons.2 ⟨(by (repeat (first | assumption | (with_reducible exact mZ) | apply mS)); first | done | fail), ?_⟩)); intro x hx; first | (cases hx; done) | ((repeat (first | exact hx | apply mS)); done))) (stab_read (by rfl) (fun L w hL hM => (ex_load hM rfl rfl (hL _ (by (repeat (first | assumption | (with_reducible exact mZ) | apply mS)); first | done | fail)) (n := 3) rfl (by decide +kernel)))) ?_; simp only [Act.put, List.setIfInBounds_toArray, List.set_cons_zero, List.set_cons_succ]; refine RS_one (i := 2) (by decide +kernel) rfl (by rfl) (.inl (by first | (intro x hx; (repeat (first | exact hx | apply mS)); done) | ((repeat (refine List.forall_mem_cons.2 ⟨(by (repeat (first | assumption | (with_reducible exact mZ) | apply mS)); first | done | fail), ?_⟩)); intro x hx; first | (cases hx; done) | ((repeat (first | exact hx | apply mS)); done)))) (fun w K hM0 hK => ?_); refine ws_store hM0 rfl rfl rfl (by (repeat (first | (with_reducible exact Take.head) | apply Take.tail)); first | done | fail) (n := 3) (by rfl) (by rfl) (by kernel_rfl) (by simp [Value.oneCell']) (fun w hM => hK _ _ _ hM ?_); clear hM hM0 hK K; simp only [Act.put, List.setIfInBounds_toArray, List.set_cons_zero, List.set_cons_succ]; refine RS_one (i := 3) (by decide +kernel) rfl (by rfl) (.inl (by first | (intro x hx; (repeat (first | exact hx | apply mS)); done) | ((repeat (refine List.forall_mem_cons.2 ⟨(by (repeat (first | assumption | (with_reducible exact mZ) | apply mS)); first | done | fail), ?_⟩)); intro x hx; first | (cases hx; done) | ((repeat (first | exact hx | apply mS)); done)))) (fun w K hM0 hK => ?_); refine ws_store hM0 rfl rfl rfl (by (repeat (first | (with_reducible exact Take.head) | apply Take.tail)); first | done | fail) (n := 3) (by rfl) (by rfl) (by kernel_rfl) (by simp [Value.oneCell']) (fun w hM => hK _ _ _ hM ?_); clear hM hM0 hK K; simp only [Act.put, List.setIfInBounds_toArray, List.set_cons_zero, List.set_cons_succ]; refine RS_take (i := 4) rfl (by decide +kernel) (fun _ _ _ h => h) (by first | (intro x hx; (repeat (first | exact hx | apply mS)); done) | ((repeat (refine List.forall_mem_cons.2 ⟨(by (repeat (first | assumption | (with_reducible exact mZ) | apply mS)); first | done | fail), ?_⟩)); intro x hx; first | (cases hx; done) | ((repeat (first | exact hx | apply mS)); done))) (stab_pure (by rfl) (fun w => (by go_simp; try with_reducible rfl))) ?_; simp only [Act.put, List.setIfInBounds_toArray, List.set_cons_zero, List.set_cons_succ]; refine RS_done (by decide +kernel) (.inl (by first | (intro x hx; (repeat (first | exact hx | apply mS)); done) | ((repeat (refine List.forall_mem_cons.2 ⟨(by (repeat (first | assumption | (with_reducible exact mZ) | apply mS)); first | done | fail), ?_⟩)); intro x hx; first | (cases hx; done) | ((repeat (first | exact hx | apply mS)); done)))) (fun w hM => ?_))
                all_goals (
                  go_wp2_with fail
                  refine bodyPost_ret (results_rows_tmp (P := Try.prog) (ty := 77) (ty2 := 85) rfl _ _ g4 g5 77 85 (rmV A' (n - 1) c' (some ⟨g', 0, none⟩) m c1 lo) #[.int .i64 p1, .int .i64 p2, .string ⟨p3.toArray⟩] 3 3 (.bool true) rfl rfl rfl (hM.blk (by (repeat (first | assumption | (with_reducible exact mZ) | apply mS)); first | done | fail)) rfl (by decide +kernel) (hM.blk (by (repeat (first | assumption | (with_reducible exact mZ) | apply mS)); first | done | fail)) rfl (by decide +kernel)) rfl ?_
                  have hM2 : Star (cellsE g' 3 (ivs (la.set tn q) ++ sp).toArray :: rowE 3 A' (n - 1) (rps (L.eraseIdx j)) :: F) _ := hM.sel (by repeat (first | (with_reducible exact Sel.refl) | (with_reducible exact Take.head) | (with_reducible apply Take.tail) | (with_reducible apply Sel.cons) | (with_reducible apply Sel.drop)))
                  exact .inr ⟨0, q, j, (p1, p2, p3), by decide, hqm, HHT.out, HNQ.out, (fun h => by cases h), HV.out, HPG.out, A', c', some ⟨g', 0, none⟩, c1, rfl, hcc, hd', hM2.ints_row (by rw [List.length_set]; exact HLA.out)⟩)
              · have HHT : Hid (rhit L tn z 1 q) := ⟨HHV.out, .inl rfl⟩
                go_wp2_with (first | (go_at_call 71; have hM0 := hM; clear hM; (first | (with_reducible refine (HFQ.out _ _ hM0 (by (repeat (first | assumption | (with_reducible exact mZ) | apply mS)); first | done | fail)).mono ?_) | fail); clear hM0; rintro _ w ⟨rfl, hM⟩) | (go_at_call 72; have hM0 := hM; clear hM; (first | (with_reducible refine (HWJ.out _ _ hM0 (by (repeat (first | assumption | (with_reducible exact mZ) | apply mS)); first | done | fail)).mono ?_) | fail); clear hM0; rintro _ w ⟨A', c', rfl, hcc, hM⟩) | ((with_reducible refine at_load' ?_); refine BigFrame.wpList_want (by rfl) fun K hK => ws_of_ex (ex_rowload_row (k := j) rfl rfl (hM.row (A := some ad) (n := n) (xs := rps L) (by (repeat (first | assumption | (with_reducible exact mZ) | apply mS)); first | done | fail)) [.int .i64 p1, .int .i64 p2, .string ⟨p3.toArray⟩] HP.out rfl hjn (by decide +kernel)) (hK _ _ ?_); clear hK K) | ((with_reducible refine at_load' ?_); refine BigFrame.wpList_want (by rfl) fun K hK => ws_rowload (ad := ab) (k := tn) rfl rfl (hM.row (A := some ab) (n := m) (xs := ivs la) (by (repeat (first | assumption | (with_reducible exact mZ) | apply mS)); first | done | fail)) HZ.out (by decide +kernel) (hK _ _ ?_); clear hK K) | (first | ((with_reducible refine at_alloc' ?_); (have hM0 := hM; clear hM; refine BigFrame.wpList_want (by rfl) fun K hK => ws_alloc hM0 (t := 85) rfl #[.int .i64 0, .int .i64 0, .string ByteArray.empty] info_rp (fun g10 w hM => hK _ _ ?_); clear hM0 hK K)) | fail) | (first | ((with_reducible refine at_slice' ?_); (have hM0 := hM; clear hM; refine BigFrame.wpList_want (by rfl) fun K hK => ws_slice_own hM0 (n := 0) rfl 3 1 (.int .i64 0) [] Try.underlying23 (by kernel_rfl) rfl (by simp [Value.cells, iv, sv, bv]) (by rfl) (by decide) (by decide) (cs := ivs []) (by rfl) (fun g6 w hM => hK _ _ ?_); clear hM0 hK K)) | fail) | ((first | ((with_reducible refine at_call' ?_); (have hM0 := hM; clear hM; refine BigFrame.wpList_want (by rfl) fun K hK => ws_append hM0 rfl rfl rfl 3 ((.int .i64 0)) 1 8 Try.underlying23 (by kernel_rfl) (by rfl) (by decide) (by (repeat (first | (with_reducible exact Take.head) | apply Take.tail)); first | done | fail) (by first | (apply Star.row hM0; (repeat (first | assumption | (with_reducible exact mZ) | apply mS)); done) | (apply Star.own hM0; (repeat (first | assumption | (with_reducible exact mZ) | apply mS)); done) | (apply Star.arr hM0; (focus ((repeat (first | assumption | (with_reducible exact mZ) | apply mS)); done)); assumption)) (HO.out _) ((by omega)) (fun A1 c1 w hM hnil => hK _ _ ?_); clear hM0 hK K)) | fail); rw [Nat.zero_add] at hM; obtain ⟨g', sp, rfl, hd', hM2⟩ := Star.own_int hM (by omega); clear hM; have hM := Star.ivs_nil hM2; clear hM2) | (first | ((with_reducible refine at_store' ?_); (have hM0 := hM; clear hM; refine BigFrame.wpList_want (by rfl) fun K hK => ws_store1 hM0 rfl rfl (by go_simp; rfl) (by first | rfl | assumption) (by (repeat (first | (with_reducible exact Take.head) | apply Take.tail)); first | done | fail) (by simpa using HSZ.out sp) (by kernel_rfl) (by exact ivs_set la sp tn q HTL.out) (fun w hM => hK _ _ ?_); clear hM0 hK K)) | fail) | (first | ((with_reducible refine at_store' ?_); (have hM0 := hM; clear hM; refine BigFrame.wpList_want (by rfl) fun K hK => ws_store1 hM0 rfl rfl (by go_simp; rfl) (by first | rfl | assumption) (by (repeat (first | (with_reducible exact Take.head) | apply Take.tail)); first | done | fail) (by simp) (by kernel_rfl) (by simp only [List.setIfInBounds_toArray, List.set_cons_zero, List.set_cons_succ]; rfl) (fun w hM => hK _ _ ?_); clear hM0 hK K)) | fail) | (first | ((with_reducible refine at_load' ?_); (refine BigFrame.wpList_want (by rfl) fun K hK => ws_load hM rfl rfl (by (repeat (first | assumption | (with_reducible exact mZ) | apply mS)); first | done | fail) (n := 3) (by rfl) (by decide +kernel) (hK _ _ ?_); clear hK K)) | fail) | (first | ((with_reducible refine at_store' ?_); (have hM0 := hM; clear hM; refine BigFrame.wpList_want (by rfl) fun K hK => ws_store hM0 rfl rfl rfl (by (repeat (first | (with_reducible exact Take.head) | apply Take.tail)); first | done | fail) (n := 3) (by rfl) (by rfl) (by kernel_rfl) (by simp [Value.oneCell']) (fun w hM => hK _ _ ?_); clear hM0 hK K)) | fail) | (first | ((with_reducible refine at_load' ?_); (refine BigFrame.wpList_want (by rfl) fun K hK => ws_load1 hM rfl rfl (by (repeat (first | assumption | (with_reducible exact mZ) | apply mS)); first | done | fail) (by first | rfl | assumption) (by decide +kernel) (hK _ _ ?_); clear hK K)) | fail))
                (refine region_RS ([cellsE g2 77 (rmV A' (n - 1) c' (some ⟨g', 0, none⟩) m c1 lo), cellsE g10 85 #[.int .i64 p1, .int .i64 p2, .string ⟨p3.toArray⟩]]) [] (by kernel_rfl) hM ?_; clear hM; change RS _ _ _ _ _ _ 5 (Array.replicate 5 false) _ _; refine RS_take (i := 0) rfl (by decide +kernel) (fun _ _ _ h => h) (by first | (intro x hx; (repeat (first | exact hx | apply mS)); done) | ((repeat (refine List.forall_mem_cons.2 ⟨(by (repeat (first | assumption | (with_reducible exact mZ) | apply mS)); first | done | fail), ?_⟩)); intro x hx; first | (cases hx; done) | ((repeat (first | exact hx | apply mS)); done))) (stab_read (by rfl) (fun L w hL hM => (ex_load hM rfl rfl (hL _ (by (repeat (first | assumption | (with_reducible exact mZ) | apply mS)); first | done | fail)) (n := 3) rfl (by decide +kernel)))) ?_; simp only [Act.put, List.setIfInBounds_toArray, List.set_cons_zero, List.set_cons_succ]; refine RS_take (i := 1) rfl (by decide +kernel) (fun _ _ _ h => h) (by first | (intro x hx; (repeat (first | exact hx | apply mS)); done) | ((repeat (refine List.forall_mem_cons.2 ⟨(by (repeat (first | assumption | (with_reducible exact mZ) | apply mS)); first | done | fail), ?_⟩)); intro x hx; first | (cases hx; done) | ((repeat (first | exact hx | apply mS)); done))) (stab_read (by rfl) (fun L w hL hM => (ex_load hM rfl rfl (hL _ (by (repeat (first | assumption | (with_reducible exact mZ) | apply mS)); first | done | fail)) (n := 3) rfl (by decide +kernel)))) ?_; simp only [Act.put, List.setIfInBounds_toArray, List.set_cons_zero, List.set_cons_succ]; refine RS_one (i := 2) (by decide +kernel) rfl (by rfl) (.inl (by first | (intro x hx; (repeat (first | exact hx | apply mS)); done) | ((repeat (refine List.forall_mem_cons.2 ⟨(by (repeat (first | assumption | (with_reducible exact mZ) | apply mS)); first | done | fail), ?_⟩)); intro x hx; first | (cases hx; done) | ((repeat (first | exact hx | apply mS)); done)))) (fun w K hM0 hK => ?_); refine ws_store hM0 rfl rfl rfl (by (repeat (first | (with_reducible exact Take.head) | apply Take.tail)); first | done | fail) (n := 3) (by rfl) (by rfl) (by kernel_rfl) (by simp [Value.oneCell']) (fun w hM => hK _ _ _ hM ?_); clear hM hM0 hK K; simp only [Act.put, List.setIfInBounds_toArray, List.set_cons_zero, List.set_cons_succ]; refine RS_one (i := 3) (by decide +kernel) rfl (by rfl) (.inl (by first | (intro x hx; (repeat (first | exact hx | apply mS)); done) | ((repeat (refine List.forall_mem_cons.2 ⟨(by (repeat (first | assumption | (with_reducible exact mZ) | apply mS)); first | done | fail), ?_⟩)); intro x hx; first | (cases hx; done) | ((repeat (first | exact hx | apply mS)); done)))) (fun w K hM0 hK => ?_); refine ws_store hM0 rfl rfl rfl (by (repeat (first | (with_reducible exact Take.head) | apply Take.tail)); first | done | fail) (n := 3) (by rfl) (by rfl) (by kernel_rfl) (by simp [Value.oneCell']) (fun w hM => hK _ _ _ hM ?_); clear hM hM0 hK K; simp only [Act.put, List.setIfInBounds_toArray, List.set_cons_zero, List.set_cons_succ]; refine RS_take (i := 4) rfl (by decide +kernel) (fun _ _ _ h => h) (by first | (intro x hx; (repeat (first | exact hx | apply mS)); done) | ((repeat (refine List.forall_mem_cons.2 ⟨(by (repeat (first | assumption | (with_reducible exact mZ) | apply mS)); first | done | fail), ?_⟩)); intro x hx; first | (cases hx; done) | ((repeat (first | exact hx | apply mS)); done))) (stab_pure (by rfl) (fun w => (by go_simp; try with_reducible rfl))) ?_; simp only [Act.put, List.setIfInBounds_toArray, List.set_cons_zero, List.set_cons_succ]; refine RS_done (by decide +kernel) (.inl (by first | (intro x hx; (repeat (first | exact hx | apply mS)); done) | ((repeat (refine List.forall_mem_cons.2 ⟨(by (repeat (first | assumption | (with_reducible exact mZ) | apply mS)); first | done | fail), ?_⟩)); intro x hx; first | (cases hx; done) | ((repeat (first | exact hx | apply mS)); done)))) (fun w hM => ?_))
                all_goals (
                  go_wp2_with fail
                  refine bodyPost_ret (results_rows_tmp (P := Try.prog) (ty := 77) (ty2 := 85) rfl _ _ g4 g5 77 85 (rmV A' (n - 1) c' (some ⟨g', 0, none⟩) m c1 lo) #[.int .i64 p1, .int .i64 p2, .string ⟨p3.toArray⟩] 3 3 (.bool true) rfl rfl rfl (hM.blk (by (repeat (first | assumption | (with_reducible exact mZ) | apply mS)); first | done | fail)) rfl (by decide +kernel) (hM.blk (by (repeat (first | assumption | (with_reducible exact mZ) | apply mS)); first | done | fail)) rfl (by decide +kernel)) rfl ?_
                  have hM2 : Star (cellsE g' 3 (ivs (la.set tn q) ++ sp).toArray :: rowE 3 A' (n - 1) (rps (L.eraseIdx j)) :: F) _ := hM.sel (by repeat (first | (with_reducible exact Sel.refl) | (with_reducible exact Take.head) | (with_reducible apply Take.tail) | (with_reducible apply Sel.cons) | (with_reducible apply Sel.drop)))
                  exact .inr ⟨1, q, j, (p1, p2, p3), by decide, hqm, HHT.out, HNQ.out, (fun _ => HNO.out 0 (by omega)), HV.out, HPG.out, A', c', some ⟨g', 0, none⟩, c1, rfl, hcc, hd', hM2.ints_row (by rw [List.length_set]; exact HLA.out)⟩)
          · have dv : decide (0 ≤ v) = false := by simp; omega
            have HNX : Hid (∀ q' : Nat, q' < q + 1 → ¬ rhit L tn z T q') := fun q' h => by
              by_cases e : q' = q
              · subst e; exact fun hh => hv0 (by have := hh.1; rw [HV.out] at this; exact this)
              · exact HNQ.out q' (by omega)
            clear hv0
            go_wp2_with (first | (go_at_call 71; have hM0 := hM; clear hM; (first | (with_reducible refine (HFQ.out _ _ hM0 (by (repeat (first | assumption | (with_reducible exact mZ) | apply mS)); first | done | fail)).mono ?_) | fail); clear hM0; rintro _ w ⟨rfl, hM⟩) | (first | ((with_reducible refine at_load' ?_); (refine BigFrame.wpList_want (by rfl) fun K hK => ws_load hM rfl rfl (by (repeat (first | assumption | (with_reducible exact mZ) | apply mS)); first | done | fail) (n := 3) (by rfl) (by decide +kernel) (hK _ _ ?_); clear hK K)) | fail) | (first | ((with_reducible refine at_load' ?_); (refine BigFrame.wpList_want (by rfl) fun K hK => ws_load1 hM rfl rfl (by (repeat (first | assumption | (with_reducible exact mZ) | apply mS)); first | done | fail) (by first | rfl | assumption) (by decide +kernel) (hK _ _ ?_); clear hK K)) | fail) | ((with_reducible refine at_load' ?_); refine BigFrame.wpList_want (by rfl) fun K hK => ws_rowload (ad := ab) (k := tn) rfl rfl (hM.row (A := some ab) (n := m) (xs := ivs la) (by (repeat (first | assumption | (with_reducible exact mZ) | apply mS)); first | done | fail)) HZ.out (by decide +kernel) (hK _ _ ?_); clear hK K))
            go_roundw
            case rel => exact ⟨q + 1, rfl, by omega, HNX, hM⟩
            case measure => simp [intOf]; omega
        · obtain rfl : m = q := by omega
          go_wp2_with (first | (first | ((with_reducible refine at_load' ?_); (refine BigFrame.wpList_want (by rfl) fun K hK => ws_load1 hM rfl rfl (by (repeat (first | assumption | (with_reducible exact mZ) | apply mS)); first | done | fail) (by first | rfl | assumption) (by decide +kernel) (hK _ _ ?_); clear hK K)) | fail))
          go_roundw
          case rel =>
            refine ⟨T + 1, rfl, by omega, fun T' h q' hq' => ?_, hM⟩
            by_cases e : T' = T
            · subst e; exact HNQ.out q' hq'
            · exact HNO.out T' (by omega) q' hq'
          case measure => simp [intOf]; omega
    · obtain rfl : T = 2 := by omega
      go_wp2_with (first | (first | ((with_reducible refine at_load' ?_); (refine BigFrame.wpList_want (by rfl) fun K hK => ws_load hM rfl rfl (by (repeat (first | assumption | (with_reducible exact mZ) | apply mS)); first | done | fail) (n := 3) (by rfl) (by decide +kernel) (hK _ _ ?_); clear hK K)) | fail) | (first | ((with_reducible refine at_store' ?_); (have hM0 := hM; clear hM; refine BigFrame.wpList_want (by rfl) fun K hK => ws_store hM0 rfl rfl rfl (by (repeat (first | (with_reducible exact Take.head) | apply Take.tail)); first | done | fail) (n := 3) (by rfl) (by rfl) (by kernel_rfl) (by simp [Value.oneCell']) (fun w hM => hK _ _ ?_); clear hM0 hK K)) | fail))
      refine bodyPost_ret (results_rows_tmp (P := Try.prog) (ty := 77) (ty2 := 85) rfl _ _ g4 g5 77 85 (rmV A n c (some ab) m d lo) #[.int .i64 0, .int .i64 0, .string ⟨#[]⟩] 3 3 (.bool false) rfl rfl rfl (hM.blk (by (repeat (first | assumption | (with_reducible exact mZ) | apply mS)); first | done | fail)) rfl (by decide +kernel) (hM.blk (by (repeat (first | assumption | (with_reducible exact mZ) | apply mS)); first | done | fail)) rfl (by decide +kernel)) rfl ?_
      exact .inl ⟨fun q hq => HNO.out 1 (by omega) q hq, rfl, hM.sel (by repeat (first | (with_reducible exact Sel.refl) | (with_reducible exact Take.head) | (with_reducible apply Take.tail) | (with_reducible apply Sel.cons) | (with_reducible apply Sel.drop)))⟩
end
end Go.Proofs.Ytbejifbiffeamaa
