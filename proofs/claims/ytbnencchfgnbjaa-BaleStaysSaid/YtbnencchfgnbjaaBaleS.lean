/- Package bale over a list of parts: Open, Bytes, Num, Int, Str, ID, Err, Left, Fail, Close, IDs. No condition but sizes. -/
import Derived.Test.YtbnencchfgnbjaaBaleM
import Derived.Test.YtbnencchfgnbjaaMore
set_option linter.unusedSimpArgs false
set_option linter.unusedVariables false
namespace Go.Proofs.Ytbnencchfgnbjaa
open Go.RowKit
attribute [local go_sem] extract_mid extract_drop bget bsize wrap64_u8 i64_u8 u64_u8 bappend
abbrev balC (l : List UInt8) (e : Int) : Array Value := #[.string ⟨l.toArray⟩, .int .i64 e]
abbrev balE (b : Nat) (l : List UInt8) (e : Int) : SProp := cellsE b 84 (balC l e)
section
variable {L R : List SProp} {w : World} {b : Nat} {l : List UInt8} {e : Int}
theorem starb {f : FuncId} {args : Array Value} {v : Value} {l' : List UInt8} {e' : Int} (hM : Star L w) (hb : Take (balE b l e) L R) (h : Bal w b l e → Calls Try.prog f args w fun r w' => r = .returned v ∧ Bal w' b l' e' ∧ Ch [b] w w') :
    Calls Try.prog f args w fun r w' => r = .returned v ∧ Star (balE b l' e' :: R) w' :=
  (h (hM.take hb).head).mono fun _ _ ⟨h1, h2, h3⟩ => ⟨h1, (hM.take hb).put (bs := [b]) rfl h3 (fun c hc => .inl (List.mem_singleton.1 hc)) h2 fun k hk => .inl hk⟩
theorem sOpen (l : List UInt8) (hM : Star L w) : Calls Try.prog 16 #[.string ⟨l.toArray⟩] w fun r w' => ∃ b, r = .returned (.pointer (some ⟨b, 0, none⟩)) ∧ Star (balE b l 0 :: L) w' :=
  (open_any l w).mono fun _ _ ⟨h1, h2, h3⟩ => ⟨_, h1, hM.new_ h3 h2 fun k hk => by rw [hk]; exact Nat.le_refl _⟩
theorem sErr (hM : Star L w) (hb : balE b l e ∈ L) : Calls Try.prog 19 #[.pointer (some ⟨b, 0, none⟩)] w fun r w' => r = .returned (.int .i64 e) ∧ Star L w' :=
  (err_any (hM.blk hb)).mono fun _ _ ⟨h1, h2⟩ => ⟨h1, h2 ▸ hM⟩
theorem sLeft (hM : Star L w) (hb : balE b l e ∈ L) : Calls Try.prog 20 #[.pointer (some ⟨b, 0, none⟩)] w fun r w' => r = .returned (.string ⟨l.toArray⟩) ∧ Star L w' :=
  (left_any (hM.blk hb)).mono fun _ _ ⟨h1, h2⟩ => ⟨h1, h2 ▸ hM⟩
theorem sNum {n : Nat} {u : List UInt8} {f : Int} (hm : mNum l e = (n, u, f)) (hM : Star L w) (hb : Take (balE b l e) L R) : Calls Try.prog 18 #[.pointer (some ⟨b, 0, none⟩)] w fun r w' => r = .returned (.int .u64 n) ∧ Star (balE b u f :: R) w' :=
  starb hM hb fun h => by have := num_any h; rwa [hm] at this
theorem sBytes {n : Int} {s u : List UInt8} {f : Int} (hm : mBytes l e n = (s, u, f)) (hM : Star L w) (hb : Take (balE b l e) L R) : Calls Try.prog 29 #[.pointer (some ⟨b, 0, none⟩), .int .i64 n] w fun r w' => r = .returned (.string ⟨s.toArray⟩) ∧ Star (balE b u f :: R) w' :=
  starb hM hb fun h => by have := bytes_any h n; rwa [hm] at this
theorem sInt {n top : Int} {u : List UInt8} {f : Int} (ht : top ≤ 9223372036854775807) (hm : mInt l e top = (n, u, f)) (hM : Star L w) (hb : Take (balE b l e) L R) : Calls Try.prog 41 #[.pointer (some ⟨b, 0, none⟩), .int .i64 top] w fun r w' => r = .returned (.int .i64 n) ∧ Star (balE b u f :: R) w' :=
  starb hM hb fun h => by have := int_any h top ht; rwa [hm] at this
theorem sStr {top : Int} {s u : List UInt8} {f : Int} (ht : top ≤ 9223372036854775807) (hm : mStr l e top = (s, u, f)) (hM : Star L w) (hb : Take (balE b l e) L R) : Calls Try.prog 42 #[.pointer (some ⟨b, 0, none⟩), .int .i64 top] w fun r w' => r = .returned (.string ⟨s.toArray⟩) ∧ Star (balE b u f :: R) w' :=
  starb hM hb fun h => by have := str_any h top ht; rwa [hm] at this
theorem sID {s u : List UInt8} {f : Int} (hm : mBytes l e 32 = (s, u, f)) (hM : Star L w) (hb : Take (balE b l e) L R) : Calls Try.prog 62 #[.pointer (some ⟨b, 0, none⟩)] w fun r w' => r = .returned (idv (idOf s)) ∧ Star (balE b u f :: R) w' :=
  starb hM hb fun h => by have := id_any h; rwa [hm] at this
theorem sFail {n : Int} {u : List UInt8} {f : Int} (hm : mFail l e n = (u, f)) (hM : Star L w) (hb : Take (balE b l e) L R) : Calls Try.prog 30 #[.pointer (some ⟨b, 0, none⟩), .int .i64 n] w fun r w' => r = .returned (.tuple #[]) ∧ Star (balE b u f :: R) w' :=
  starb hM hb fun h => by have := fail_any h n; rwa [hm] at this
theorem sClose {u : List UInt8} {f : Int} (hm : mClose l e = (u, f)) (hM : Star L w) (hb : Take (balE b l e) L R) : Calls Try.prog 32 #[.pointer (some ⟨b, 0, none⟩)] w fun r w' => r = .returned (.int .i64 f) ∧ Star (balE b u f :: R) w' :=
  starb hM hb fun h => by have := close_any h; rwa [hm] at this
end
theorem mBytes_err (l : List UInt8) {e : Int} (n : Int) (h : e ≠ 0) : mBytes l e n = ([], l, e) := by simp [mBytes, h]
theorem mInt_err (l : List UInt8) {e : Int} (top : Int) (h : e ≠ 0) : mInt l e top = (0, l, e) := by simp [mInt, mNum_err l e h, h]
theorem mStr_err (l : List UInt8) {e : Int} (top : Int) (h : e ≠ 0) : mStr l e top = ([], l, e) := by simp [mStr, mInt_err l top h, mBytes_err l _ h]
theorem mBytes_app (s t : List UInt8) : mBytes (s ++ t) 0 (s.length : Int) = (s, t, 0) := by simp [mBytes]; omega
theorem mStr_enc (s t : List UInt8) (top : Int) (h : (s.length : Int) ≤ max top 0) (hn : s.length ≤ 18446744073709551615) : mStr (encStr s ++ t) 0 top = (s, t, 0) := by
  unfold mStr encStr
  rw [List.append_assoc, mInt_enc s.length (s ++ t) top h hn]
  exact mBytes_app s t
theorem idOf_same (l : List UInt8) (h : l.length = 32) : idOf l = l := by
  unfold idOf over
  rw [z32_len, List.take_of_length_le (by omega), List.drop_of_length_le (by rw [z32_len]; omega), List.append_nil]
/-- Names, one behind the other, as long as there is no error. -/
def mIDl : Nat → List UInt8 → Int → List (List UInt8) → List (List UInt8) × List UInt8 × Int
  | 0, u, e, o => (o, u, e)
  | n + 1, u, e, o => if e = 0 then mIDl n (mBytes u e 32).2.1 (mBytes u e 32).2.2 (o ++ [idOf (mBytes u e 32).1]) else (o, u, e)
def mIDs (l : List UInt8) (e top : Int) : List (List UInt8) × List UInt8 × Int :=
  let r := mInt l e top
  let q := mIDl r.1.toNat r.2.1 r.2.2 []
  (if q.2.2 = 0 then q.1 else [], q.2.1, q.2.2)
theorem mIDl_cat (ids : List (List UInt8)) (h : ∀ x ∈ ids, x.length = 32) (t : List UInt8) (o : List (List UInt8)) : mIDl ids.length (cat ids ++ t) 0 o = (o ++ ids, t, 0) := by
  induction ids generalizing o with
  | nil => simp [mIDl, cat]
  | cons x ids ih =>
    have hx := h x List.mem_cons_self
    have hb : mBytes (x ++ (cat ids ++ t)) 0 32 = (x, cat ids ++ t, 0) := by have := mBytes_app x (cat ids ++ t); rwa [hx] at this
    simp only [List.length_cons, mIDl, cat, List.append_assoc, if_true, hb]
    rw [ih (fun y hy => h y (List.mem_cons_of_mem _ hy)), idOf_same x hx]
    simp
theorem mIDs_enc (ids : List (List UInt8)) (h : ∀ x ∈ ids, x.length = 32) (t : List UInt8) (top : Int) (hn : (ids.length : Int) ≤ max top 0) (h64 : ids.length ≤ 18446744073709551615) : mIDs (encIDs ids ++ t) 0 top = (ids, t, 0) := by
  unfold mIDs encIDs
  rw [List.append_assoc, mInt_enc ids.length (cat ids ++ t) top hn h64]
  simp [mIDl_cat ids h t []]
theorem mIDs_err (l : List UInt8) {e : Int} (top : Int) (h : e ≠ 0) : mIDs l e top = ([], l, e) := by simp [mIDs, mInt_err l top h, mIDl, h]
abbrev ids32 (l : List (List UInt8)) : Prop := ∀ x ∈ l, x.length = 32
theorem ids32_nil : ids32 [] := fun x hx => by cases hx
theorem ids32_snoc {l : List (List UInt8)} {x : List UInt8} (h : ids32 l) (hx : x.length = 32) : ids32 (l ++ [x]) := fun y hy => by
  rcases List.mem_append.1 hy with h1 | h1
  · exact h y h1
  · rw [List.mem_singleton.1 h1]; exact hx
set_option maxRecDepth 100000 in
set_option maxHeartbeats 2000000 in
theorem sIDs {L R : List SProp} {b : Nat} {l u : List UInt8} {e top f : Int} {o : List (List UInt8)} (ht : top ≤ 1000000) (hm : mIDs l e top = (o, u, f)) (w : World) (hM : Star L w) (hb : Take (balE b l e) L R) :
    Calls Try.prog 44 #[.pointer (some ⟨b, 0, none⟩), .int .i64 top] w fun r w' => ∃ A c, r = .returned (.slice A o.length c) ∧ Star (rowE 32 A o.length (idvs o) :: balE b u f :: R) w' := by
  obtain ⟨n, u1, f1, h1⟩ : ∃ n u f, mInt l e top = (n, u, f) := ⟨_, _, _, rfl⟩
  have hr := mInt_range l e top
  rw [h1] at hr
  obtain ⟨N, hN⟩ : ∃ N : Nat, n = N := ⟨n.toNat, by omega⟩
  subst hN
  have hN6 : N ≤ 1000000 := by have := hr.2; simp only at this; omega
  have H1 := Lib.hid h1
  have h2 : mIDl N u1 f1 [] = ((mIDl N u1 f1 []).1, u, f) ∧ o = if f = 0 then (mIDl N u1 f1 []).1 else [] := by
    unfold mIDs at hm
    rw [h1] at hm
    simp only [Int.toNat_natCast] at hm
    rcases hq : mIDl N u1 f1 [] with ⟨q1, q2, q3⟩
    rw [hq] at hm
    simp only [Prod.mk.injEq] at hm
    obtain ⟨h3, h4, h5⟩ := hm
    subst h4 h5
    exact ⟨rfl, h3.symm⟩
  obtain ⟨h2, h3⟩ := h2
  generalize (mIDl N u1 f1 []).1 = O at h2 h3
  have H2 := Lib.hid h2
  have H3 := Lib.hid h3
  clear h1 hm h2 h3 hr
  go_enter Try.func44, Try.ntmps44
  go_wp2_with (first | (go_at_call 41; have hM0 := hM; clear hM; (first | (with_reducible refine (sInt (by omega) H1.out hM0 hb).mono ?_) | fail); clear hM0; rintro _ w ⟨rfl, hM⟩))
  replace hM := hM.nilown 38 32
  go_loopw [5, 6] (fun out i wr => ∃ (j : Nat) (u2 : List UInt8) (f2 : Int) (o2 : List (List UInt8)) (A : Option Addr) (c n2 : Nat), j + n2 = N ∧ Hid (n2 = o2.length) ∧ Hid (ids32 o2) ∧ i = .int .i64 j ∧ out = .slice A n2 c ∧ Hid (mIDl j u2 f2 o2 = (O, u, f)) ∧ Star (ownE 38 32 A n2 c (idvs o2) :: balE b u2 f2 :: R) wr) (fun _ i _ => (intOf i).toNat)
  case atStart => exact ⟨N, u1, f1, [], none, 0, 0, by omega, rfl, ids32_nil, rfl, rfl, H2.out, hM⟩
  case round =>
    clear hM
    obtain ⟨j, u2, f2, o2, A, c, n2, hj, hn2, h32, rfl, rfl, hml, hM⟩ := hrel
    by_cases hgo : 0 < j ∧ f2 = 0
    · obtain ⟨hj0, rfl⟩ := hgo
      obtain ⟨i, rfl⟩ : ∃ i, j = i + 1 := ⟨j - 1, by omega⟩
      obtain ⟨s, u3, f3, hb3⟩ : ∃ s u f, mBytes u2 0 32 = (s, u, f) := ⟨_, _, _, rfl⟩
      have HB3 := Lib.hid hb3
      obtain ⟨x, hx⟩ : ∃ x, x = idOf s := ⟨_, rfl⟩
      have hx32 : x.length = 32 := by rw [hx]; exact idOf_len s
      have HN : Hid (mIDl i u3 f3 (o2 ++ [x]) = (O, u, f)) := by
        have := hml.out
        unfold mIDl at this
        rw [if_pos rfl, hb3] at this
        rw [hx]; exact this
      have HX := Lib.hid hx
      clear hb3 hx
      have HID : ∀ {L R : List SProp} (w : World), Star L w → Take (balE b u2 0) L R → Calls Try.prog 62 #[.pointer (some ⟨b, 0, none⟩)] w fun r w' => r = .returned (idv x) ∧ Star (balE b u3 f3 :: R) w' := fun w hM hb => by rw [HX.out]; exact sID HB3.out hM hb
      go_wp2_with (first | (first | (refine BigFrame.wpList_want (by rfl) fun K hK => ws_load1 hM rfl rfl (by (repeat (first | assumption | (with_reducible exact List.mem_cons_self) | apply List.mem_cons_of_mem)); first | done | fail) rfl (by kernel_rfl) (hK _ _ ?_); clear hK K) | fail) | (go_at_call 62; have hM0 := hM; clear hM; (first | (with_reducible refine (HID _ hM0 (by (repeat (first | (with_reducible exact Take.head) | apply Take.tail)); first | done | fail)).mono ?_) | fail); clear hM0; rintro _ w ⟨rfl, hM⟩) | (first | (have hM0 := hM; clear hM; refine BigFrame.wpList_want (by rfl) fun K hK => ws_slice_row hM0 (n := 1) rfl 38 32 (.agg (bvs z32).toArray) [idv x] Try.underlying36 (by kernel_rfl) rfl (by simp [Value.cells, iv, sv, bv, idv, bvs_len, hx32]) (by rfl) (by decide) (cs := idvs [x]) (by rfl) (fun g w hM => hK _ _ ?_); clear hM0 hK K) | fail) | (first | (have hM0 := hM; clear hM; refine BigFrame.wpList_want (by rfl) fun K hK => ws_append hM0 rfl rfl rfl 38 ((.agg (bvs z32).toArray)) 32 32 Try.underlying36 (by kernel_rfl) (by simp [Value.cells, bvs_len, z32_len]) (by decide) (by (repeat (first | (with_reducible exact Take.head) | apply Take.tail)); first | done | fail) (by first | (apply Star.row hM0; (repeat (first | assumption | (with_reducible exact List.mem_cons_self) | apply List.mem_cons_of_mem)); done) | (apply Star.own hM0; (repeat (first | assumption | (with_reducible exact List.mem_cons_self) | apply List.mem_cons_of_mem)); done) | (apply Star.arr hM0; (focus ((repeat (first | assumption | (with_reducible exact List.mem_cons_self) | apply List.mem_cons_of_mem)); done)); assumption)) (idvs_one [x]) ((by omega)) (fun A1 c1 w hM hnil => hK _ _ ?_); clear hM0 hK K) | fail))
      go_roundw
      case rel => exact ⟨i, u3, f3, o2 ++ [x], A1, c1, n2 + 1, by omega, (by show _ = _; rw [List.length_append, ← hn2.out]; rfl), ids32_snoc h32.out hx32, by go_num, rfl, HN.out, by rw [idvs_app]; exact hM.sel (by repeat (first | (with_reducible exact Sel.refl) | (with_reducible exact Take.head) | (with_reducible apply Take.tail) | (with_reducible apply Sel.cons) | (with_reducible apply Sel.drop)))⟩
      case measure => simp [intOf]
    · have hend : o2 = O ∧ u2 = u ∧ f2 = f := by
        have := hml.out
        cases j with
        | zero => simpa [mIDl] using this
        | succ i =>
          have hf2 : f2 ≠ 0 := fun h => hgo ⟨by omega, h⟩
          simpa [mIDl, hf2] using this
      obtain ⟨rfl, rfl, rfl⟩ := hend
      have hno := hn2.out
      by_cases hf : f2 = 0
      · subst hf
        have hj0 : j = 0 := by omega
        subst hj0
        have ho : o = o2 := by have := H3.out; simpa using this
        subst ho
        go_wp2_with (first | (first | (refine BigFrame.wpList_want (by rfl) fun K hK => ws_load1 hM rfl rfl (by (repeat (first | assumption | (with_reducible exact List.mem_cons_self) | apply List.mem_cons_of_mem)); first | done | fail) rfl (by kernel_rfl) (hK _ _ ?_); clear hK K) | fail))
        go_ret
        exact ⟨A, ⟨c, rfl⟩, by rw [← hno]; exact hM.freeze⟩
      · have hfn : (f2 == 0) = false := by simpa using hf
        have hfn2 : (f2 != 0) = true := by simpa using hf
        have ho : o = [] := by have := H3.out; simpa [hf] using this
        subst ho
        go_wp2_with (first | (first | (refine BigFrame.wpList_want (by rfl) fun K hK => ws_load1 hM rfl rfl (by (repeat (first | assumption | (with_reducible exact List.mem_cons_self) | apply List.mem_cons_of_mem)); first | done | fail) rfl (by kernel_rfl) (hK _ _ ?_); clear hK K) | fail))
        all_goals
          go_ret
          exact ⟨none, 0, rfl, (hM.sel (R := balE b u2 f2 :: R) (by repeat (first | (with_reducible exact Sel.refl) | (with_reducible exact Take.head) | (with_reducible apply Take.tail) | (with_reducible apply Sel.cons) | (with_reducible apply Sel.drop)))).nilrow 32⟩
end Go.Proofs.Ytbnencchfgnbjaa
