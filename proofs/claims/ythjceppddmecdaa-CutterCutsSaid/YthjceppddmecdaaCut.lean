/- The walks of cutter.New, ends, take, Waits, Close. No condition but sizes. -/
import Derived.Test.YthjceppddmecdaaGear
import Derived.Test.YthjceppddmecdaaCutP
import Derived.Test.YthjceppddmecdaaTail
set_option linter.unusedSimpArgs false
set_option linter.unusedVariables false
namespace Go.Proofs.Ythjceppddmecdaa
open Go.RowKit
attribute [local go_sem] extract_mid extract_drop bget bsize wrap64_u8 i64_u8 u64_u8 bappend
abbrev cutE (c q : Nat) (A : Option Addr) (n cap : Nat) : SProp := cellsE c 78 #[.pointer (some ⟨q, 0, none⟩), .slice A n cap]
theorem opt_add0 (A : Option Addr) : A.map (fun x => x.add 0) = A := by cases A <;> rfl
/-- s[:0] -/
theorem ex_trunc {P : Program} {w : World} {o : Oper} {a : Act} {t : TypeId} {x : Operand} (ho : o.op = .slice t x none (some (.const (.int .i64 0))) none) {e : TypeId} (ht : P.underlying t = some (.slice e)) {i : Nat} (hi : (P.info? e).map (·.size) = some i)
    {A : Option Addr} {n c : Nat} (hx : a.eval x = .slice A n c) : (execOp a.eval o).run P w = .ok (.value (.slice A 0 c)) w := by
  have hr : (Instr.sliceAt t (.slice A n c) none (some (.int .i64 0)) none).run P w = .ok (.slice A 0 c) w := by
    obtain ⟨j, hj, rfl⟩ : ∃ j, P.info? e = some j ∧ j.size = i := by
      cases h : P.info? e with
      | none => rw [h] at hi; cases hi
      | some j => rw [h] at hi; exact ⟨j, rfl, by simpa using hi⟩
    have e0 : (if c = 0 then A else A.map (fun x => x.add (0 * j.size))) = A := by rw [Nat.zero_mul]; split <;> simp [opt_add0]
    simp [Instr.sliceAt, Instr.slice, Instr.sliceBounds, Instr.sliceBound, go_sem, run_underlying ht, sizeOf, typeInfo, hj, asIntOf]
  unfold execOp
  have he : a.eval (.const (.int .i64 0)) = .int .i64 0 := rfl
  simp only [ho, hx, he, Option.map_some, Option.map_none, hr, Sem.run_bind, Sem.run_pure, Result.andThen_ok]
theorem Star.tail_trunc {L : List SProp} {w : World} {e : TypeId} {size n c : Nat} {A : Option Addr} {xs : List Value} (h : Star (tailE e size A n c xs :: L) w) : Star (tailE e size A 0 c [] :: L) w :=
  h.as_ rfl (fun k hk => hk) fun h => by
    obtain ⟨h1, h2, h3, h4⟩ := h
    refine ⟨by simp, by omega, h3, ?_⟩
    rcases h4 with h4 | ⟨g, off, cur, e1, hb, hs, _⟩
    · exact .inl h4
    · exact .inr ⟨g, off, cur, e1, hb, hs, by simp⟩
theorem info_u8m : (Try.prog.info? 5).map (·.size) = some 1 := by kernel_rfl
set_option maxRecDepth 100000 in
theorem cnew_star {F : List SProp} (g : Nat) (w : World) (hM : Star F w) :
    Calls Try.prog 33 #[.pointer (some ⟨g, 0, none⟩)] w fun r w' => ∃ c q, r = .returned (.pointer (some ⟨c, 0, none⟩)) ∧ Star (cutE c q none 0 0 :: rollE q g 0 0 :: tailE 5 1 none 0 0 [] :: F) w' := by
  replace hM := hM.niltail 5 1
  go_enter Try.func33, Try.ntmps33
  go_wp2_with (first | (go_at_call 48; have hM0 := hM; clear hM; (first | (with_reducible refine (gover_star g _ hM0).mono ?_) | fail); clear hM0; rintro _ w ⟨q, rfl, hM⟩) | (refine build_any rfl _ _ rfl _ (by kernel_rfl) ?_) | (first | (have hM0 := hM; clear hM; refine BigFrame.wpList_want (by rfl) fun K hK => ws_box hM0 rfl rfl rfl (fun gc w hM => hK _ _ ?_); clear hM0 hK K) | fail))
  go_ret
  exact ⟨_, _, rfl, hM⟩
theorem msk8 : clampN 8 = 8 := by decide
theorem msk5 : clampN 5 = 5 := by decide
set_option maxRecDepth 100000 in
theorem ends_star {F : List SProp} (n v : Nat) (hv : v < 18446744073709551616) (w : World) (hM : Star F w) :
    Calls Try.prog 50 #[.int .i64 n, .int .u64 v] w fun r w' => r = .returned (.bool (cEnd n v)) ∧ Star F w' := by
  have K8 : ∀ w, Calls Try.prog 66 #[.int .i64 8] w fun r w' => r = .returned (.int .u64 (msk 8)) ∧ w = w' := fun w => by have := mask_any 8 w; rwa [msk8] at this
  have K5 : ∀ w, Calls Try.prog 66 #[.int .i64 5] w fun r w' => r = .returned (.int .u64 (msk 5)) ∧ w = w' := fun w => by have := mask_any 5 w; rwa [msk5] at this
  have B8 := bits_and_u64_nat v (msk 8) hv (msk_facts 8 (by decide)).1
  have B5 := bits_and_u64_nat v (msk 5) hv (msk_facts 5 (by decide)).1
  have HE : Hid (cEnd n v = decide (256 ≤ n ∨ (96 ≤ n ∧ v &&& msk 5 = 0) ∨ (32 ≤ n ∧ n < 96 ∧ v &&& msk 8 = 0))) := rfl
  generalize cEnd n v = ce at HE ⊢
  generalize msk 8 = m8 at K8 B8 HE
  generalize msk 5 = m5 at K5 B5 HE
  generalize v &&& m8 = x8 at B8 HE
  generalize v &&& m5 = x5 at B5 HE
  by_cases h1 : n < 32
  · have h1' : (n : Int) < 32 := by omega
    obtain rfl : ce = false := by rw [HE.out]; exact decide_eq_false (by omega)
    clear HE
    go_enter Try.func50, Try.ntmps50
    go_wp2_with fail
    go_ret
    exact ⟨rfl, hM⟩
  · have h1' : ¬ (n : Int) < 32 := by omega
    by_cases h2 : 256 ≤ n
    · have h2' : 256 ≤ (n : Int) := by omega
      obtain rfl : ce = true := by rw [HE.out]; exact decide_eq_true (by omega)
      clear HE
      go_enter Try.func50, Try.ntmps50
      go_wp2_with fail
      go_ret
      exact ⟨rfl, hM⟩
    · have h2' : ¬ 256 ≤ (n : Int) := by omega
      by_cases h3 : n < 96
      · have h3' : (n : Int) < 96 := by omega
        obtain rfl : ce = decide ((x8 : Int) = 0) := by rw [HE.out, decide_eq_decide]; omega
        clear HE
        go_enter Try.func50, Try.ntmps50
        go_wp2_with (first | (go_at_call 66; have hM0 := hM; clear hM; (first | (with_reducible refine (starq (K8 _) hM0).mono ?_) | fail); clear hM0; rintro _ w ⟨rfl, hM⟩))
        go_ret
        exact ⟨rfl, hM⟩
      · have h3' : ¬ (n : Int) < 96 := by omega
        obtain rfl : ce = decide ((x5 : Int) = 0) := by rw [HE.out, decide_eq_decide]; omega
        clear HE
        go_enter Try.func50, Try.ntmps50
        go_wp2_with (first | (go_at_call 66; have hM0 := hM; clear hM; (first | (with_reducible refine (starq (K5 _) hM0).mono ?_) | fail); clear hM0; rintro _ w ⟨rfl, hM⟩))
        go_ret
        exact ⟨rfl, hM⟩
set_option maxRecDepth 100000 in
theorem ctake_star {L R R1 R2 : List SProp} {c q g v m n cap : Nat} {A : Option Addr} (s : List UInt8) (w : World) (hM : Star L w) (h1 : Take (cutE c q A n cap) L R) (h2 : Take (rollE q g v m) R R1) (h3 : Take (tailE 5 1 A n cap (bvs s)) R1 R2) :
    Calls Try.prog 52 #[.pointer (some ⟨c, 0, none⟩)] w fun r w' => r = .returned (.string ⟨s.toArray⟩) ∧ Star (cutE c q A 0 cap :: rollE q g 0 0 :: tailE 5 1 A 0 cap [] :: R2) w' := by
  replace hM : Star (cutE c q A n cap :: rollE q g v m :: tailE 5 1 A n cap (bvs s) :: R2) w := (hM.take h1).perm (((h2.perm.trans ((h3.perm).cons _)).cons _))
  clear h1 h2 h3
  go_enter Try.func52, Try.ntmps52
  go_wp2_with (first | (first | (refine BigFrame.wpList_want (by rfl) fun K hK => ws_load1 hM rfl rfl (by (repeat (first | assumption | (with_reducible exact List.mem_cons_self) | apply List.mem_cons_of_mem)); first | done | fail) (by first | rfl | assumption) (by decide +kernel) (hK _ _ ?_); clear hK K) | fail) | (first | (refine BigFrame.wpList_want (by rfl) fun K hK => ws_string (l := s) rfl 5 Try.underlying63 Try.underlying9 Try.underlying5 rfl (hM.tail_row (by (repeat (first | assumption | (with_reducible exact List.mem_cons_self) | apply List.mem_cons_of_mem)); first | done | fail)) (hK _ _ ?_); clear hK K) | fail) | (refine BigFrame.wpList_want (by rfl) fun K hK => ws_of_ex (ex_trunc rfl Try.underlying63 info_u8m rfl) (hK _ _ ?_); clear hK K) | (first | (have hM0 := hM; clear hM; refine BigFrame.wpList_want (by rfl) fun K hK => ws_store1 hM0 rfl rfl (by go_simp; rfl) (by first | rfl | assumption) (by (repeat (first | (with_reducible exact Take.head) | apply Take.tail)); first | done | fail) (by simp) (by kernel_rfl) (by simp only [List.setIfInBounds_toArray, List.set_cons_zero, List.set_cons_succ]; rfl) (fun w hM => hK _ _ ?_); clear hM0 hK K) | fail) | (go_at_call 67; have hM0 := hM; clear hM; (first | (with_reducible refine (greset_star _ hM0 (by (repeat (first | (with_reducible exact Take.head) | apply Take.tail)); first | done | fail)).mono ?_) | fail); clear hM0; rintro _ w ⟨rfl, hM⟩))
  go_ret
  exact ⟨rfl, (((hM.take (x := tailE 5 1 A n cap (bvs s)) (by (repeat (first | (with_reducible exact Take.head) | apply Take.tail)); first | done | fail)).tail_trunc)).sel (by repeat (first | (with_reducible exact Sel.refl) | (with_reducible exact Take.head) | (with_reducible apply Take.tail) | (with_reducible apply Sel.cons) | (with_reducible apply Sel.drop)))⟩
set_option maxRecDepth 100000 in
theorem cwaits_star {F : List SProp} {c q n cap : Nat} {A : Option Addr} (w : World) (hM : Star F w) (hF : cutE c q A n cap ∈ F) :
    Calls Try.prog 36 #[.pointer (some ⟨c, 0, none⟩)] w fun r w' => r = .returned (.int .i64 n) ∧ Star F w' := by
  go_enter Try.func36, Try.ntmps36
  go_wp2_with (first | (first | (refine BigFrame.wpList_want (by rfl) fun K hK => ws_load1 hM rfl rfl (by (repeat (first | assumption | (with_reducible exact List.mem_cons_self) | apply List.mem_cons_of_mem)); first | done | fail) (by first | rfl | assumption) (by decide +kernel) (hK _ _ ?_); clear hK K) | fail))
  go_ret
  exact ⟨rfl, hM⟩
set_option maxRecDepth 100000 in
theorem cclose0_star {F : List SProp} {c q cap : Nat} {A : Option Addr} (w : World) (hM : Star F w) (hF : cutE c q A 0 cap ∈ F) :
    Calls Try.prog 35 #[.pointer (some ⟨c, 0, none⟩)] w fun r w' => r = .returned (.tuple #[.string ⟨#[]⟩, .bool false]) ∧ Star F w' := by
  go_enter Try.func35, Try.ntmps35
  go_wp2_with (first | (first | (refine BigFrame.wpList_want (by rfl) fun K hK => ws_load1 hM rfl rfl (by (repeat (first | assumption | (with_reducible exact List.mem_cons_self) | apply List.mem_cons_of_mem)); first | done | fail) (by first | rfl | assumption) (by decide +kernel) (hK _ _ ?_); clear hK K) | fail))
  go_ret2
  exact ⟨rfl, hM⟩
set_option maxRecDepth 100000 in
theorem cclose_star {L R R1 R2 : List SProp} {c q g v m n cap : Nat} {A : Option Addr} (s : List UInt8) (hn : 0 < n) (w : World) (hM : Star L w) (h1 : Take (cutE c q A n cap) L R) (h2 : Take (rollE q g v m) R R1) (h3 : Take (tailE 5 1 A n cap (bvs s)) R1 R2) :
    Calls Try.prog 35 #[.pointer (some ⟨c, 0, none⟩)] w fun r w' => r = .returned (.tuple #[.string ⟨s.toArray⟩, .bool true]) ∧ Star (cutE c q A 0 cap :: rollE q g 0 0 :: tailE 5 1 A 0 cap [] :: R2) w' := by
  replace hM : Star (cutE c q A n cap :: rollE q g v m :: tailE 5 1 A n cap (bvs s) :: R2) w := (hM.take h1).perm (((h2.perm.trans ((h3.perm).cons _)).cons _))
  clear h1 h2 h3
  have hn1 : ¬ (n : Int) = 0 := by omega
  have hn2 : ¬ n = 0 := by omega
  go_enter Try.func35, Try.ntmps35
  go_wp2_with (first | (first | (refine BigFrame.wpList_want (by rfl) fun K hK => ws_load1 hM rfl rfl (by (repeat (first | assumption | (with_reducible exact List.mem_cons_self) | apply List.mem_cons_of_mem)); first | done | fail) (by first | rfl | assumption) (by decide +kernel) (hK _ _ ?_); clear hK K) | fail) | (go_at_call 52; have hM0 := hM; clear hM; (first | (with_reducible refine (ctake_star s _ hM0 (by (repeat (first | (with_reducible exact Take.head) | apply Take.tail)); first | done | fail) (by (repeat (first | (with_reducible exact Take.head) | apply Take.tail)); first | done | fail) (by (repeat (first | (with_reducible exact Take.head) | apply Take.tail)); first | done | fail)).mono ?_) | fail); clear hM0; rintro _ w ⟨rfl, hM⟩))
  go_ret2
  exact ⟨rfl, hM⟩
end Go.Proofs.Ythjceppddmecdaa
