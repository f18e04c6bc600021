/- What the laws share, part 7 (MerY, MerB, MerZ, MerRB, MerG, MerA, MerH). No condition but those that each theorem names. -/
import Derived.Test.YtlhedbjjlomniaaM6
set_option linter.unusedSimpArgs false
set_option linter.unusedVariables false
namespace Go.Proofs.Ytlhedbjjlomniaa
open Go.RowKit
attribute [local go_sem] extract_mid extract_drop bget bsize wrap64_u8 i64_u8 u64_u8 bappend
theorem Star.row_midG {α : Type} {L : List SProp} {w : World} {ad : Addr} {n size : Nat} {l : List α} {f : α → List Value} (h : Star L w) (hx : rowE size (some ad) n (l.flatMap f) ∈ L) (hs : 0 < size) (hf : ∀ x, (f x).length = size) {i g : Nat} (hg : i + g ≤ n) : Star (rowE size (some (ad.add (i * size))) g (((l.drop i).take g).flatMap f) :: L) w := by
  have hr := h.row hx
  have hlen : l.length = n := by
    have h1 := flat_len f size l fun x _ => hf x
    rw [hr.1] at h1
    exact (Nat.eq_of_mul_eq_mul_right hs h1).symm
  have hgl : ((l.drop i).take g).length = g := by rw [List.length_take, List.length_drop]; omega
  refine h.view hx rfl rfl (fun k ⟨ad', e, hn, hk⟩ => ?_) ?_
  · injection e with e
    subst e
    rw [block_of_add] at hk
    exact ⟨ad, rfl, by omega, hk⟩
  · refine ⟨?_, fun hn => ⟨_, rfl, ?_, fun j u hu => ?_⟩⟩
    · rw [flat_len f size _ fun x _ => hf x, hgl]
    · obtain ⟨ad', e, hb, _⟩ := hr.2 (by omega)
      injection e with e
      subst e
      rw [block_of_add]
      exact hb
    · obtain ⟨ad', e, _, hc⟩ := hr.2 (by omega)
      injection e with e
      subst e
      rw [add_of_add]
      have hjl := (List.getElem?_eq_some_iff.1 hu).1
      rw [flat_len f size _ fun x _ => hf x, hgl] at hjl
      obtain ⟨a, b, hb, rfl⟩ : ∃ a b, b < size ∧ j = a * size + b := ⟨j / size, j % size, Nat.mod_lt _ hs, by rw [Nat.mul_comm]; exact (Nat.div_add_mod j size).symm⟩
      have ha : a < g := by
        rcases Nat.lt_or_ge a g with h | h
        · exact h
        · have := Nat.mul_le_mul_right size h
          omega
      have hq : ((l.drop i).take g)[a]? = some ((l.drop i).take g)[a] := List.getElem?_eq_getElem (by omega)
      generalize ((l.drop i).take g)[a] = d at hq
      have hd : l[i + a]? = some d := by
        rw [List.getElem?_take, if_pos ha, List.getElem?_drop] at hq
        exact hq
      obtain ⟨v, hv⟩ : ∃ v, (f d)[b]? = some v := ⟨_, List.getElem?_eq_getElem (by rw [hf]; exact hb)⟩
      have e1 := flat_get f size _ (fun x _ => hf x) a d hq b v hv
      rw [e1] at hu
      injection hu with hu
      subst hu
      have e2 := flat_get f size l (fun x _ => hf x) (i + a) d hd b v hv
      refine hc _ v ?_
      rw [show i * size + (a * size + b) = (i + a) * size + b by rw [Nat.add_mul]; omega]
      exact e2
def rcs (o : Ob) : List Value := [iv o.1, sv o.2.1, sv o.2.2]
def rvs (l : List Ob) : List Value := l.flatMap rcs
theorem rvs_app (a b : List Ob) : rvs (a ++ b) = rvs a ++ rvs b := by simp [rvs]
theorem rvs_cells (l : List Ob) : ∀ v ∈ rvs l, v.oneCell' = true := by
  intro u hu
  obtain ⟨c, _, h⟩ := List.mem_flatMap.1 hu
  simp only [rcs, List.mem_cons, List.not_mem_nil, or_false] at h
  rcases h with rfl | rfl | rfl <;> rfl
abbrev roC (k : Int) (id x : List UInt8) : Array Value := #[.int .i64 k, .string ⟨id.toArray⟩, .string ⟨x.toArray⟩]
theorem ex_slice2 {w : World} {o : Oper} {a : Act} {x lo hi : Operand} {ad : Addr} {n c k g : Nat} (ho : o.op = .slice 55 x (some lo) (some hi) none) (hx : a.eval x = .slice (some ad) n c) (hlo : a.eval lo = .int .i64 (8 * (k : Int))) (hhi : a.eval hi = .int .i64 (8 * (k : Int) + (g : Int))) (h1 : 8 * k + g ≤ c) (h2 : 0 < g) :
    (execOp a.eval o).run Try.prog w = .ok (.value (.slice (some (ad.add (8 * k * 2))) g (c - 8 * k))) w := by
  unfold execOp
  simp only [ho, hx, hlo, hhi, Option.map_some, Option.map_none]
  have q1 : (0 : Int) ≤ 8 * (k : Int) ∧ 8 * (k : Int) ≤ 8 * (k : Int) + (g : Int) := by omega
  have q2 : (8 * (k : Int)).toNat = 8 * k := by omega
  have q4 : (8 * (k : Int) + (g : Int)).toNat = 8 * k + g := by omega
  have q3 : ¬ (c = 8 * k) := by omega
  go_simp
  intro h
  exfalso
  have := h (by omega)
  omega
set_option maxRecDepth 100000 in
set_option maxHeartbeats 8000000 in
theorem rup_star {F : List SProp} (k : Nat) (hk : 1 ≤ k ∧ k ≤ 8) (A : Option Addr) (n c : Nat) (l : List Pt) (h32 : ok32 l) (hb : ∀ p ∈ l, 0 ≤ p.2 ∧ p.2 ≤ 1000000) (hs : sumP l ≤ 1000000) (hn0 : 0 < n) (hn : n ≤ 1000) (hc : n ≤ c) (hcm : c ≤ 9223372036854775807) (w : World) (hM : Star F w) (hF : rowE 2 A n (qvs l) ∈ F) :
    Calls Try.prog 79 #[.int .i64 k, .slice A n c] w fun r w' => ∃ B cb U cu, r = .returned (.tuple #[.slice B (upP k l).length cb, .slice U (upO k l).length cu]) ∧
      Star (ownE 69 2 B (upP k l).length cb (qvs (upP k l)) :: ownE 74 3 U (upO k l).length cu (rvs (upO k l)) :: F) w' := by
  have hlen := qvs_row (hM.row hF)
  obtain ⟨ad, rfl, _, _⟩ := (hM.row hF).2 hn0
  obtain ⟨G, hG⟩ : ∃ G, (n + 7) / 8 = G := ⟨_, rfl⟩
  have hPl : (upP k l).length = G := by rw [upP_len, hlen, hG]
  have hOl : (upO k l).length = G := by rw [upO_len, hlen, hG]
  have HBODY : Hid (∀ j, j < G → ∃ (g : Nat) (gl : List Pt) (tx id : List UInt8) (sm : Int), g ≤ 8 ∧ 0 < g ∧ 8 * j + g ≤ n ∧ (if (n : Int) < 8 * (j : Int) + 8 then (n : Int) else 8 * (j : Int) + 8) = 8 * (j : Int) + (g : Int) ∧ tx.length ≤ 346 ∧ id.length = 32 ∧ 0 ≤ sm ∧ sm ≤ 1000000 ∧ gl.length = g ∧ (∀ p ∈ gl, 0 ≤ p.2 ∧ p.2 ≤ 1000000) ∧ sumP gl = sm ∧
      (∀ (L : List SProp) (w : World), Star L w → rowE 2 (some ad) n (qvs l) ∈ L → Star (rowE 2 (some (ad.add (8 * j * 2))) g (qvs gl) :: L) w) ∧
      (∀ (L : List SProp) (w : World) (cc : Nat), Star L w → rowE 2 (some (ad.add (8 * j * 2))) g (qvs gl) ∈ L → Calls Try.prog 105 #[.agg (ndC k (some (ad.add (8 * j * 2))) g cc)] w fun r w' => r = .returned (.string ⟨tx.toArray⟩) ∧ Star L w') ∧
      (∀ (L : List SProp) (w : World), Star L w → Calls Try.prog 78 #[.int .i64 2, .string ⟨tx.toArray⟩] w fun r w' => r = .returned (.string ⟨id.toArray⟩) ∧ Star L w') ∧
      qvs ((upP k l).take (j + 1)) = qvs ((upP k l).take j) ++ qvs [(id, sm)] ∧ rvs ((upO k l).take (j + 1)) = rvs ((upO k l).take j) ++ rvs [(2, id, tx)]) := fun j hj => by
    have hj2 : j < (l.length + 7) / 8 := by omega
    have hgl : ((l.drop (8 * j)).take 8).length = min 8 (n - 8 * j) := by rw [List.length_take, List.length_drop]; omega
    have h32g : ok32 ((l.drop (8 * j)).take 8) := fun p hp => h32 p (List.mem_of_mem_drop (List.mem_of_mem_take hp))
    have hbg : ∀ p ∈ (l.drop (8 * j)).take 8, 0 ≤ p.2 ∧ p.2 ≤ 1000000 := fun p hp => hb p (List.mem_of_mem_drop (List.mem_of_mem_take hp))
    have hsg := sumP_sub l (fun p hp => (hb p hp).1) (8 * j) 8
    have htk : (l.drop (8 * j)).take (min 8 (n - 8 * j)) = (l.drop (8 * j)).take 8 := by
      rcases Nat.lt_or_ge (n - 8 * j) 8 with h | h
      · rw [Nat.min_eq_right (by omega), List.take_of_length_le (by rw [List.length_drop]; omega), List.take_of_length_le (by rw [List.length_drop]; omega)]
      · rw [Nat.min_eq_left (by omega)]
    refine ⟨min 8 (n - 8 * j), (l.drop (8 * j)).take 8, textN (k, (l.drop (8 * j)).take 8), onm 2 (textN (k, (l.drop (8 * j)).take 8)), sumP ((l.drop (8 * j)).take 8), by omega, by omega, by omega, by split <;> omega, textN_len _ h32g (by simp only; omega), onm_len _ _, hsg.1, by omega, hgl, hbg, rfl, ?_, ?_, ?_, ?_, ?_⟩
    · intro L w hM hx
      have := hM.row_midG (f := qcs) hx (by omega) qcs_len (i := 8 * j) (g := min 8 (n - 8 * j)) (by omega)
      rwa [htk] at this
    · intro L w cc hM hx
      exact rntext_star k _ _ _ _ (by omega) hbg (fun p hp => by rw [h32g p hp]; omega) (by omega) w hM hx
    · intro L w hM
      exact rOof_star 2 _ (by have := textN_len (k, (l.drop (8 * j)).take 8) h32g (by simp only; omega); omega) w hM
    · rw [upP_snoc k l hj2 rfl, qvs_app]
    · rw [upO_snoc k l hj2 rfl, rvs_app]
  rw [hPl, hOl]
  have hPt : (upP k l).take G = upP k l := List.take_of_length_le (by omega)
  have hOt : (upO k l).take G = upO k l := List.take_of_length_le (by omega)
  have HPT := Lib.hid hPt
  have HOT := Lib.hid hOt
  have hGb : G ≤ 130 := by omega
  have hGn : 8 * G < n + 8 ∧ n ≤ 8 * G := by omega
  generalize upP k l = up at HBODY HPT ⊢
  generalize upO k l = uo at HBODY HOT ⊢
  clear hb hs hlen hG hPl hOl hPt hOt hn0 h32
  have tok1 : True := trivial
  go_enter Try.func79, Try.ntmps79
  go_wp2_with (first | (first | ((with_reducible refine at_slice' ?_); (have hM0 := hM; clear hM; refine BigFrame.wpList_want (by rfl) fun K hK => ws_slice_own hM0 (n := 0) rfl 69 2 (.agg (qtC [] 0)) [] Try.underlying55 (by kernel_rfl) rfl (by simp [Value.cells, iv, sv, bv]) (by rfl) (by decide) (by decide) (cs := qvs []) (by rfl) (fun g6 w hM => hK _ _ ?_); clear hM0 hK K)) | fail) | (first | ((with_reducible refine at_slice' ?_); (have hM0 := hM; clear hM; refine BigFrame.wpList_want (by rfl) fun K hK => ws_slice_own hM0 (n := 0) rfl 74 3 (.agg (roC 0 [] [])) [] Try.underlying70 (by kernel_rfl) rfl (by simp [Value.cells, iv, sv, bv]) (by rfl) (by decide) (by decide) (cs := rvs []) (by rfl) (fun g7 w hM => hK _ _ ?_); clear hM0 hK K)) | fail))
  go_loopw [6, 7, 8] (fun P O i wr => ∃ (j : Nat) (B : Option Addr) (cb : Nat) (U : Option Addr) (cu : Nat), j ≤ G ∧ i = .int .i64 (8 * j : Nat) ∧ P = .slice B j cb ∧ O = .slice U j cu ∧ Star (ownE 69 2 B j cb (qvs (up.take j)) :: ownE 74 3 U j cu (rvs (uo.take j)) :: F) wr) (fun _ _ i _ => n - (intOf i).toNat)
  case atStart => exact ⟨0, _, 0, _, 0, by omega, rfl, rfl, rfl, (hM.sel (by repeat (first | (with_reducible exact Sel.refl) | (with_reducible exact Take.head) | (with_reducible apply Take.tail) | (with_reducible apply Sel.cons) | (with_reducible apply Sel.drop))) : Star (ownE 69 2 (some ⟨g6, 0, none⟩) 0 0 (qvs []) :: ownE 74 3 (some ⟨g7, 0, none⟩) 0 0 (rvs []) :: F) _)⟩
  case round =>
    clear hM
    obtain ⟨j, B, cb, U, cu, hj, rfl, rfl, rfl, hM⟩ := hrel
    by_cases hlt : j < G
    · obtain ⟨g, gl, tx, id, sm, hg8, hg0, hgn, hmin, htx, hid, hsm0, hsm1, hgl, hbg, hsm, HR, HT, HOF, HP, HO⟩ := HBODY.out j hlt
      have hlt2 : ((8 * j : Nat) : Int) < (n : Int) := by omega
      replace hM := HR _ _ hM (by (repeat (first | assumption | (with_reducible exact List.mem_cons_self) | apply List.mem_cons_of_mem)); first | done | fail)
      replace HT := Lib.hid HT
      replace HOF := Lib.hid HOF
      replace HP := Lib.hid HP
      replace HO := Lib.hid HO
      have HMN := Lib.hid hmin
      have HGL := Lib.hid hgl
      have HBG := Lib.hid hbg
      have HSM := Lib.hid hsm
      clear hmin hgl hbg hsm HR
      go_wp2_with (first | (refine BigFrame.wpList_want (by rfl) fun K hK => ws_of_ex (ex_min rfl rfl rfl HMN.out) (hK _ _ ?_); clear hK K) | (refine BigFrame.wpList_want (by rfl) fun K hK => ws_of_ex (ex_slice2 (g := g) rfl rfl rfl rfl (by omega) hg0) (hK _ _ ?_); clear hK K) | (first | ((with_reducible refine at_alloc' ?_); (have hM0 := hM; clear hM; refine BigFrame.wpList_want (by rfl) fun K hK => ws_alloc hM0 (t := 57) rfl (ndC 0 none 0 0) info_rnd (fun g9 w hM => hK _ _ ?_); clear hM0 hK K)) | fail) | (first | ((with_reducible refine at_store' ?_); (have hM0 := hM; clear hM; refine BigFrame.wpList_want (by rfl) fun K hK => ws_store hM0 rfl rfl rfl (by (repeat (first | (with_reducible exact Take.head) | apply Take.tail)); first | done | fail) (n := 2) (by rfl) (by rfl) (by kernel_rfl) (by simp [Value.oneCell']) (fun w hM => hK _ _ ?_); clear hM0 hK K)) | fail) | (first | ((with_reducible refine at_load' ?_); (refine BigFrame.wpList_want (by rfl) fun K hK => ws_load1 hM rfl rfl (by (repeat (first | assumption | (with_reducible exact List.mem_cons_self) | apply List.mem_cons_of_mem)); first | done | fail) (by first | rfl | assumption) (by decide +kernel) (hK _ _ ?_); clear hK K)) | fail))
      obtain ⟨wq, rfl⟩ : ∃ wq : World, wq = w := ⟨_, rfl⟩
      go_loopw [10, 35] (fun v i wx => ∃ (q : Nat) (s : Int), q ≤ g ∧ i = .int .i64 q ∧ v = .int .i64 s ∧ Hid (s = sumP (gl.take q)) ∧ Star (cellsE g9 57 (ndC k (some (ad.add (8 * j * 2))) g (c - 8 * j)) :: rowE 2 (some (ad.add (8 * j * 2))) g (qvs gl) :: ownE 69 2 B j cb (qvs (up.take j)) :: ownE 74 3 U j cu (rvs (uo.take j)) :: F) wx) (fun _ i _ => g - (intOf i).toNat)
      case atStart => exact ⟨0, 0, by omega, rfl, rfl, rfl, hM.sel (by repeat (first | (with_reducible exact Sel.refl) | (with_reducible exact Take.head) | (with_reducible apply Take.tail) | (with_reducible apply Sel.cons) | (with_reducible apply Sel.drop)))⟩
      case round =>
        clear hM
        obtain ⟨q, s, hq, rfl, rfl, HS, hM⟩ := hrel
        by_cases hlq : q < g
        · obtain ⟨bd, d, hbd, hc2, hg2, ht2⟩ := Rd.elems (l := gl) (f := qcs) (hM.row (A := some (ad.add (8 * j * 2))) (xs := qvs gl) (by (repeat (first | assumption | (with_reducible exact List.mem_cons_self) | apply List.mem_cons_of_mem)); first | done | fail)) (fun x hx => qcs_len x) (by omega) hlq
          injection hbd with hbd
          subst hbd
          have hdm := List.mem_of_getElem? hg2
          have hd2 := HBG.out d hdm
          have hsb := sumP_le 1000000 (gl.take q) fun p hp => HBG.out p (List.mem_of_mem_take hp)
          have hlk : (gl.take q).length ≤ 8 := by rw [List.length_take]; omega
          rw [← HS.out] at hsb
          have HTK : Hid (s + d.2 = sumP (gl.take (q + 1))) := by show _ = _; rw [ht2, sumP_app, HS.out]; simp [sumP]
          have hs1 : 0 ≤ s := hsb.1
          have hs2 : s ≤ 1000000 * 8 := by have := hsb.2; omega
          obtain ⟨di, x⟩ := d
          simp only at hd2 HTK
          clear ht2 hg2 hdm hsb hlk
          go_wp2_with (first | (refine BigFrame.wpList_want (by rfl) fun K hK => ws_load_at rfl rfl [.string ⟨di.toArray⟩, .int .i64 x] hc2 (n := 2) rfl (by decide +kernel) (hK _ _ ?_); clear hK K) | (first | ((with_reducible refine at_alloc' ?_); (have hM0 := hM; clear hM; refine BigFrame.wpList_want (by rfl) fun K hK => ws_alloc hM0 (t := 69) rfl (qtC [] 0) info_qt (fun g12 w hM => hK _ _ ?_); clear hM0 hK K)) | fail) | (first | ((with_reducible refine at_store' ?_); (have hM0 := hM; clear hM; refine BigFrame.wpList_want (by rfl) fun K hK => ws_store hM0 rfl rfl rfl (by (repeat (first | (with_reducible exact Take.head) | apply Take.tail)); first | done | fail) (n := 2) (by rfl) (by rfl) (by kernel_rfl) (by simp [Value.oneCell']) (fun w hM => hK _ _ ?_); clear hM0 hK K)) | fail) | (first | ((with_reducible refine at_load' ?_); (refine BigFrame.wpList_want (by rfl) fun K hK => ws_load1 hM rfl rfl (by (repeat (first | assumption | (with_reducible exact List.mem_cons_self) | apply List.mem_cons_of_mem)); first | done | fail) (by first | rfl | assumption) (by decide +kernel) (hK _ _ ?_); clear hK K)) | fail))
          go_roundw
          case rel => exact ⟨q + 1, s + x, by omega, by go_num, rfl, HTK.out, hM.sel (by repeat (first | (with_reducible exact Sel.refl) | (with_reducible exact Take.head) | (with_reducible apply Take.tail) | (with_reducible apply Sel.cons) | (with_reducible apply Sel.drop)))⟩
          case measure => simp [intOf]; omega
        · obtain rfl : q = g := by omega
          have hss : s = sm := by rw [HS.out, List.take_of_length_le (by rw [HGL.out]; omega)]; exact HSM.out
          subst hss
          have HON : Hid (∀ v ∈ qvs [(id, s)], v.oneCell' = true) := qvs_cells _
          have HOO : Hid (∀ v ∈ rvs [(2, id, tx)], v.oneCell' = true) := rvs_cells _
          go_wp2_with (first | (first | ((with_reducible refine at_load' ?_); (refine BigFrame.wpList_want (by rfl) fun K hK => ws_load hM rfl rfl (by (repeat (first | assumption | (with_reducible exact List.mem_cons_self) | apply List.mem_cons_of_mem)); first | done | fail) (n := 2) (by rfl) (by decide +kernel) (hK _ _ ?_); clear hK K)) | fail) | (go_at_call 105; have hM0 := hM; clear hM; (first | (with_reducible refine (HT.out _ _ _ hM0 (by (repeat (first | assumption | (with_reducible exact List.mem_cons_self) | apply List.mem_cons_of_mem)); first | done | fail)).mono ?_) | fail); clear hM0; rintro _ w ⟨rfl, hM⟩) | (go_at_call 78; have hM0 := hM; clear hM; (first | (with_reducible refine (HOF.out _ _ hM0).mono ?_) | fail); clear hM0; rintro _ w ⟨rfl, hM⟩) | (first | ((with_reducible refine at_slice' ?_); (have hM0 := hM; clear hM; refine BigFrame.wpList_want (by rfl) fun K hK => ws_slice_row hM0 (n := 1) rfl 69 2 (.agg (qtC [] 0)) [.agg (qtC id s)] Try.underlying55 (by kernel_rfl) rfl (by simp [Value.cells, iv, sv, bv]) (by rfl) (by decide) (cs := qvs [(id, s)]) (by rfl) (fun g51 w hM => hK _ _ ?_); clear hM0 hK K)) | fail) | (first | ((with_reducible refine at_slice' ?_); (have hM0 := hM; clear hM; refine BigFrame.wpList_want (by rfl) fun K hK => ws_slice_row hM0 (n := 1) rfl 74 3 (.agg (roC 0 [] [])) [.agg (roC 2 id tx)] Try.underlying70 (by kernel_rfl) rfl (by simp [Value.cells, iv, sv, bv]) (by rfl) (by decide) (cs := rvs [(2, id, tx)]) (by rfl) (fun g58 w hM => hK _ _ ?_); clear hM0 hK K)) | fail) | (first | ((with_reducible refine at_call' ?_); (have hM0 := hM; clear hM; refine BigFrame.wpList_want (by rfl) fun K hK => ws_append hM0 rfl rfl rfl 69 ((.agg (qtC [] 0))) 2 24 Try.underlying55 (by kernel_rfl) (by rfl) (by decide) (by (repeat (first | (with_reducible exact Take.head) | apply Take.tail)); first | done | fail) (by first | (apply Star.row hM0; (repeat (first | assumption | (with_reducible exact List.mem_cons_self) | apply List.mem_cons_of_mem)); done) | (apply Star.own hM0; (repeat (first | assumption | (with_reducible exact List.mem_cons_self) | apply List.mem_cons_of_mem)); done) | (apply Star.arr hM0; (focus ((repeat (first | assumption | (with_reducible exact List.mem_cons_self) | apply List.mem_cons_of_mem)); done)); assumption)) (HON.out) ((by omega)) (fun A1 c1 w hM hnil => hK _ _ ?_); clear hM0 hK K)) | fail) | (first | ((with_reducible refine at_call' ?_); (have hM0 := hM; clear hM; refine BigFrame.wpList_want (by rfl) fun K hK => ws_append hM0 rfl rfl rfl 74 ((.agg (roC 0 [] []))) 3 40 Try.underlying70 (by kernel_rfl) (by rfl) (by decide) (by (repeat (first | (with_reducible exact Take.head) | apply Take.tail)); first | done | fail) (by first | (apply Star.row hM0; (repeat (first | assumption | (with_reducible exact List.mem_cons_self) | apply List.mem_cons_of_mem)); done) | (apply Star.own hM0; (repeat (first | assumption | (with_reducible exact List.mem_cons_self) | apply List.mem_cons_of_mem)); done) | (apply Star.arr hM0; (focus ((repeat (first | assumption | (with_reducible exact List.mem_cons_self) | apply List.mem_cons_of_mem)); done)); assumption)) (HOO.out) ((by omega)) (fun A2 c2 w hM hnil => hK _ _ ?_); clear hM0 hK K)) | fail))
          go_roundw
          case rel => exact ⟨j + 1, A1, c1, A2, c2, by omega, by go_num, rfl, rfl, by rw [HP.out, HO.out]; exact hM.sel (by repeat (first | (with_reducible exact Sel.refl) | (with_reducible exact Take.head) | (with_reducible apply Take.tail) | (with_reducible apply Sel.cons) | (with_reducible apply Sel.drop)))⟩
          case measure => simp [intOf]; omega
    · obtain rfl : j = G := by omega
      rw [HPT.out, HOT.out] at hM
      have hge : ¬ (8 * (j : Int) < (n : Int)) := by omega
      go_wp2
      go_ret2
      exact ⟨B, cb, U, cu, rfl, hM⟩
end Go.Proofs.Ytlhedbjjlomniaa
set_option linter.unusedSimpArgs false
set_option linter.unusedVariables false
namespace Go.Proofs.Ytlhedbjjlomniaa
def okCh (c : List UInt8) : Bool := decide (1 ≤ c.length ∧ c.length ≤ 256)
def leafP (cs : List (List UInt8)) : List Pt := cs.map fun c => (onm 1 c, (c.length : Int))
def leafO (cs : List (List UInt8)) : List Ob := cs.map fun c => (1, onm 1 c, c)
/-- Level by level. -/
def climb : Nat → Int → List Pt → List Ob → List Pt × List Ob
  | 0, _, l, o => (l, o)
  | f + 1, k, l, o => if k = 1 ∨ 1 < l.length then climb f (k + 1) (upP k l) (o ++ upO k l) else (l, o)
def noPt : Pt := (z32, 0)
/-- The root, the objects, the error. -/
def buildB (cs : List (List UInt8)) : Pt × List Ob × Int :=
  if cs.all okCh = false then (noPt, [], 10)
  else if cs = [] then (noPt, [], 10)
  else if 32768 < sumP (leafP cs) then (noPt, [], 5)
  else ((climb 4 1 (leafP cs) (leafO cs)).1.headD noPt, (climb 4 1 (leafP cs) (leafO cs)).2, 0)
theorem leafP_len (cs : List (List UInt8)) : (leafP cs).length = cs.length := by simp [leafP]
theorem leafO_len (cs : List (List UInt8)) : (leafO cs).length = cs.length := by simp [leafO]
theorem leafP_32 (cs : List (List UInt8)) : ok32 (leafP cs) := by
  intro p hp
  obtain ⟨g, _, rfl⟩ := List.mem_map.1 hp
  exact onm_len _ _
theorem leafO_32 (cs : List (List UInt8)) : ob32 (leafO cs) := by
  intro p hp
  obtain ⟨g, _, rfl⟩ := List.mem_map.1 hp
  exact onm_len _ _
theorem leafP_pos (cs : List (List UInt8)) : ∀ p ∈ leafP cs, 0 ≤ p.2 := by
  intro p hp
  obtain ⟨g, _, rfl⟩ := List.mem_map.1 hp
  simp only
  omega
/-- The sum over groups is the sum. -/
theorem sum_groups (l : List Pt) : ∀ G, sumP ((List.range G).map fun i => (([], sumP ((l.drop (8 * i)).take 8)) : Pt)) = sumP (l.take (8 * G)) := by
  intro G
  induction G with
  | zero => simp [sumP]
  | succ G ih =>
    rw [List.range_succ, List.map_append, sumP_app, ih]
    simp only [List.map_cons, List.map_nil, sumP]
    rw [show 8 * (G + 1) = 8 * G + 8 by omega, List.take_add, sumP_app]
    omega
theorem sumP_congr : ∀ (a b : List Pt), a.map (·.2) = b.map (·.2) → sumP a = sumP b
  | [], [], _ => rfl
  | [], _ :: _, h => by cases h
  | _ :: _, [], h => by cases h
  | p :: a, q :: b, h => by
    simp only [List.map_cons, List.cons.injEq] at h
    simp only [sumP, h.1, sumP_congr a b h.2]
theorem upP_sum (k : Int) (l : List Pt) : sumP (upP k l) = sumP l := by
  rw [sumP_congr (upP k l) ((List.range ((l.length + 7) / 8)).map fun i => (([], sumP ((l.drop (8 * i)).take 8)) : Pt)) (by unfold upP grp; simp), sum_groups, List.take_of_length_le (by omega)]
theorem nn_sum : ∀ l : List Pt, (∀ p ∈ l, 0 ≤ p.2) → 0 ≤ sumP l
  | [], _ => by simp [sumP]
  | p :: l, h => by have h1 := h p List.mem_cons_self; have h2 := nn_sum l fun q hq => h q (List.mem_cons_of_mem _ hq); simp only [sumP]; omega
theorem le_sum : ∀ l : List Pt, (∀ p ∈ l, 0 ≤ p.2) → ∀ p ∈ l, p.2 ≤ sumP l
  | [], _ => by simp
  | q :: l, h => by
    intro p hp
    have h1 := h q List.mem_cons_self
    have h2 := nn_sum l fun q hq => h q (List.mem_cons_of_mem _ hq)
    rcases List.mem_cons.1 hp with rfl | hp
    · simp only [sumP]; omega
    · have := le_sum l (fun q hq => h q (List.mem_cons_of_mem _ hq)) p hp
      simp only [sumP]; omega
theorem upP_pos (k : Int) (l : List Pt) (h : ∀ p ∈ l, 0 ≤ p.2) : ∀ p ∈ upP k l, 0 ≤ p.2 := by
  intro p hp
  obtain ⟨g, hg, rfl⟩ := List.mem_map.1 hp
  unfold grp at hg
  obtain ⟨i, _, rfl⟩ := List.mem_map.1 hg
  exact nn_sum _ fun q hq => h q (List.mem_of_mem_drop (List.mem_of_mem_take hq))
/-- What holds level by level. -/
structure Lvl (k : Nat) (l : List Pt) (o : List Ob) : Prop where
  k1 : 1 ≤ k
  k4 : k ≤ 4
  one : 1 ≤ l.length
  len : l.length ≤ (if k = 1 then 512 else if k = 2 then 64 else if k = 3 then 8 else 1)
  o32 : ob32 o
  l32 : ok32 l
  pos : ∀ p ∈ l, 0 ≤ p.2
  sum : sumP l ≤ 32768
  olen : o.length ≤ 512 + 64 * (k - 1)
theorem Lvl.up {k : Nat} {l : List Pt} {o : List Ob} (h : Lvl k l o) (hk : k = 1 ∨ 1 < l.length) : Lvl (k + 1) (upP k l) (o ++ upO k l) := by
  obtain ⟨h1, h2, h3, h4, h5, h6, h7, h8, h9⟩ := h
  have hk3 : k ≤ 3 := by
    rcases hk with rfl | hk
    · omega
    · rcases (by omega : k ≤ 3 ∨ k = 4) with h | rfl
      · exact h
      · simp at h4; omega
  refine ⟨by omega, by omega, by rw [upP_len]; omega, ?_, ?_, upP_32 _ _, upP_pos _ _ h7, by rw [upP_sum]; exact h8, ?_⟩
  · rw [upP_len]
    rcases (by omega : k = 1 ∨ k = 2 ∨ k = 3) with rfl | rfl | rfl <;> simp at h4 ⊢ <;> omega
  · intro x hx
    rcases List.mem_append.1 hx with hx | hx
    · exact h5 x hx
    · exact upO_32 _ _ x hx
  · rw [List.length_append, upO_len]
    have : l.length ≤ 512 := by split at h4 <;> (try split at h4) <;> (try split at h4) <;> omega
    have : (l.length + 7) / 8 ≤ 64 := by omega
    omega
end Go.Proofs.Ytlhedbjjlomniaa
set_option linter.unusedSimpArgs false
set_option linter.unusedVariables false
namespace Go.Proofs.Ytlhedbjjlomniaa
open Go.RowKit
attribute [local go_sem] extract_mid extract_drop bget bsize wrap64_u8 i64_u8 u64_u8 bappend
theorem results_row_tmp2 {P : Program} {fn : Func} {p u v : Tmp} {ty : TypeId} (h : fn.results = #[.cell p ty, .tmp u, .tmp v]) (tmps : Array Value) (w : World) (g : Nat) (t : TypeId) (cs : Array Value) (n : Nat) (x y : Value) (hp : tmps.getD p undef = .pointer (some ⟨g, 0, none⟩)) (hx : tmps.getD u undef = x) (hy : tmps.getD v undef = y) (hg : Blk w g t cs) (hn : cs.size = n) (hr : rowTy P ty n = true) :
    (results fn tmps).run P w = .ok (.tuple #[.agg cs, x, y]) w := by
  obtain ⟨⟨d, h1, h2⟩, h3⟩ := rowTy_und hr
  have hl := run_loadVar_row w g t ty cs (0, 0) d hg h1 (by cases d <;> simp_all) (by rw [h3, hn])
  have hp' : tmps[p]?.getD undef = .pointer (some ⟨g, 0, none⟩) := by simpa using hp
  have hx' : tmps[u]?.getD undef = x := by simpa using hx
  have hy' : tmps[v]?.getD undef = y := by simpa using hy
  simp [results, h, hp', hx', hy', asAddr, hl]
def PB (F : List SProp) (cs : List (List UInt8)) (r : Ending) (w' : World) : Prop := ∃ U cu, r = .returned (.tuple #[.agg (pcs (buildB cs).1).toArray, .slice U (buildB cs).2.1.length cu, .int .i64 (buildB cs).2.2]) ∧ Star (rowE 34 U (buildB cs).2.1.length (ovs (buildB cs).2.1) :: F) w'
theorem PB_none {F : List SProp} {cs : List (List UInt8)} {e : Int} {w : World} (h : buildB cs = (noPt, [], e)) (hM : Star F w) : PB F cs (.returned (.tuple #[.agg (pcs noPt).toArray, .slice none 0 0, .int .i64 e])) w := by
  unfold PB
  rw [h]
  exact ⟨none, 0, rfl, hM.nilrow 34⟩
theorem build_pt0 (w : World) : (Instr.build 64 #[]).run Try.prog w = .ok (.agg (pcs noPt).toArray) w := by
  unfold pcs noPt z32
  kernel_rfl
theorem all_take_succ {cs : List (List UInt8)} {j : Nat} {d : List UInt8} (h : cs.take (j + 1) = cs.take j ++ [d]) (h1 : (cs.take j).all okCh = true) (h2 : okCh d = true) : (cs.take (j + 1)).all okCh = true := by
  rw [h, List.all_append, h1]
  simp [h2]
theorem leafP_snoc (a : List (List UInt8)) (d : List UInt8) : leafP (a ++ [d]) = leafP a ++ [(onm 1 d, (d.length : Int))] := by simp [leafP]
theorem leafO_snoc (a : List (List UInt8)) (d : List UInt8) : leafO (a ++ [d]) = leafO a ++ [(1, onm 1 d, d)] := by simp [leafO]
theorem leaf_sum_le (a : List (List UInt8)) (h : a.all okCh = true) : 0 ≤ sumP (leafP a) ∧ sumP (leafP a) ≤ 256 * a.length := by
  have := sumP_le 256 (leafP a) fun p hp => by
    obtain ⟨g, hg, rfl⟩ := List.mem_map.1 hp
    have h1 := List.all_eq_true.1 h g hg
    unfold okCh at h1
    simp only [decide_eq_true_eq] at h1
    simp only
    omega
  rwa [leafP_len] at this
set_option maxRecDepth 100000 in
set_option maxHeartbeats 8000000 in
theorem build_star {F : List SProp} (cs : List (List UInt8)) (A : Option Addr) (n c : Nat) (hn : n ≤ 200) (hx : ∀ x ∈ cs, x.length ≤ 1000000) (w : World) (hM : Star F w) (hF : rowE 1 A n (svs cs) ∈ F) :
    Calls Try.prog 34 #[.slice A n c] w (PB F cs) := by
  have hlen := svs_row (hM.row hF)
  have HL := Lib.hid hlen
  have HX := Lib.hid hx
  have HN0 : Hid ((pcs noPt).toArray.size = 33) := pcs_sz z32_32
  have tok1 : True := trivial
  clear hlen hx
  go_enter Try.func34, Try.ntmps34
  go_wp2_with (first | (first | (have hM0 := hM; clear hM; refine BigFrame.wpList_want (by rfl) fun K hK => ws_alloc hM0 (t := 64) rfl (pcs noPt).toArray info_pt (fun g2 w hM => hK _ _ ?_); clear hM0 hK K) | fail))
  replace hM := (hM.nilown 64 33).nilown 76 34
  go_loopw [5, 6, 7, 16] (fun O P S i wr => ∃ (j : Nat) (B : Option Addr) (cb : Nat) (U : Option Addr) (cu : Nat) (s : Int), j ≤ n ∧ i = .int .i64 j ∧ P = .slice B j cb ∧ O = .slice U j cu ∧ S = .int .i64 s ∧ Hid ((cs.take j).all okCh = true) ∧ Hid (s = sumP (leafP (cs.take j))) ∧
    Star (ownE 64 33 B j cb (pvs (leafP (cs.take j))) :: ownE 76 34 U j cu (ovs (leafO (cs.take j))) :: cellsE g2 64 (pcs noPt).toArray :: F) wr) (fun _ _ _ i _ => n - (intOf i).toNat)
  case atStart => exact ⟨0, none, 0, none, 0, 0, by omega, rfl, rfl, rfl, rfl, rfl, rfl, (hM.sel (by repeat (first | (with_reducible exact Sel.refl) | (with_reducible exact Take.head) | (with_reducible apply Take.tail) | (with_reducible apply Sel.cons) | (with_reducible apply Sel.drop))) : Star (ownE 64 33 none 0 0 [] :: ownE 76 34 none 0 0 [] :: cellsE g2 64 (pcs noPt).toArray :: F) _)⟩
  case round =>
    clear hM
    obtain ⟨j, B, cb, U, cu, s, hj, rfl, rfl, rfl, rfl, HOK, HS, hM⟩ := hrel
    by_cases hlt : j < n
    · obtain ⟨ad, d, rfl, hc, hg, ht⟩ := hM.elemS (A := A) (n := n) (l := cs) (List.mem_cons_of_mem _ (List.mem_cons_of_mem _ (List.mem_cons_of_mem _ hF))) hlt
      have hdm := List.mem_of_getElem? hg
      have hdx := HX.out d hdm
      rcases hok : okCh d with _ | _
      · have hbad : buildB cs = (noPt, [], 10) := by
          unfold buildB
          rw [if_pos]
          rw [List.all_eq_false]
          exact ⟨d, hdm, by rw [hok]; simp⟩
        have HBAD := Lib.hid hbad
        clear hbad ht hg hdm
        by_cases hd0 : d = []
        · subst hd0
          clear hok
          go_wp2_with (first | (first | (refine BigFrame.wpList_want (by rfl) fun K hK => ws_rowload rfl rfl (by first | (apply Star.row hM; (repeat (first | assumption | (with_reducible exact List.mem_cons_self) | apply List.mem_cons_of_mem)); done) | (apply Star.own hM; (repeat (first | assumption | (with_reducible exact List.mem_cons_self) | apply List.mem_cons_of_mem)); done) | (apply Star.arr hM; (focus ((repeat (first | assumption | (with_reducible exact List.mem_cons_self) | apply List.mem_cons_of_mem)); done)); assumption)) (by assumption) (by kernel_rfl) (hK _ _ ?_); clear hK K) | fail) | (refine BigFrame.wpList_want (by rfl) fun K hK => ws_build (parts := #[]) rfl (.agg (pcs noPt).toArray) (by first | (simp only [List.map_toArray, List.map_nil]; exact build_pt0 _) | (simp only [Array.map_empty]; exact build_pt0 _)) (hK _ _ ?_); clear hK K) | (first | (have hM0 := hM; clear hM; refine BigFrame.wpList_want (by rfl) fun K hK => ws_store hM0 rfl rfl rfl (by (repeat (first | (with_reducible exact Take.head) | apply Take.tail)); first | done | fail) (n := 33) (by exact pcs_sz z32_32) (by exact pcs_sz z32_32) (by kernel_rfl) (by exact pcs_oneA _) (fun w hM => hK _ _ ?_); clear hM0 hK K) | fail))
          refine bodyPost_ret (results_row_tmp2 (P := Try.prog) (ty := 64) rfl _ _ g2 64 (pcs noPt).toArray 33 _ _ rfl rfl rfl (hM.blk (by (repeat (first | assumption | (with_reducible exact List.mem_cons_self) | apply List.mem_cons_of_mem)); first | done | fail)) HN0.out (by decide +kernel)) rfl ?_
          exact PB_none HBAD.out (hM.sel (R := F) (by repeat (first | (with_reducible exact Sel.refl) | (with_reducible exact Take.head) | (with_reducible apply Take.tail) | (with_reducible apply Sel.cons) | (with_reducible apply Sel.drop))))
        · have hbig : 256 < d.length := by
            have : 0 < d.length := List.length_pos_iff.2 hd0
            unfold okCh at hok
            simp only [decide_eq_false_iff_not] at hok
            omega
          have b1 : decide (256 < (d.length : Int)) = true := by simp; omega
          have b2 : (!decide (d = [])) = true := by simpa using hd0
          clear hok
          go_wp2_with (first | (first | (refine BigFrame.wpList_want (by rfl) fun K hK => ws_rowload rfl rfl (by first | (apply Star.row hM; (repeat (first | assumption | (with_reducible exact List.mem_cons_self) | apply List.mem_cons_of_mem)); done) | (apply Star.own hM; (repeat (first | assumption | (with_reducible exact List.mem_cons_self) | apply List.mem_cons_of_mem)); done) | (apply Star.arr hM; (focus ((repeat (first | assumption | (with_reducible exact List.mem_cons_self) | apply List.mem_cons_of_mem)); done)); assumption)) (by assumption) (by kernel_rfl) (hK _ _ ?_); clear hK K) | fail) | (refine BigFrame.wpList_want (by rfl) fun K hK => ws_build (parts := #[]) rfl (.agg (pcs noPt).toArray) (by first | (simp only [List.map_toArray, List.map_nil]; exact build_pt0 _) | (simp only [Array.map_empty]; exact build_pt0 _)) (hK _ _ ?_); clear hK K) | (first | (have hM0 := hM; clear hM; refine BigFrame.wpList_want (by rfl) fun K hK => ws_store hM0 rfl rfl rfl (by (repeat (first | (with_reducible exact Take.head) | apply Take.tail)); first | done | fail) (n := 33) (by exact pcs_sz z32_32) (by exact pcs_sz z32_32) (by kernel_rfl) (by exact pcs_oneA _) (fun w hM => hK _ _ ?_); clear hM0 hK K) | fail))
          refine bodyPost_ret (results_row_tmp2 (P := Try.prog) (ty := 64) rfl _ _ g2 64 (pcs noPt).toArray 33 _ _ rfl rfl rfl (hM.blk (by (repeat (first | assumption | (with_reducible exact List.mem_cons_self) | apply List.mem_cons_of_mem)); first | done | fail)) HN0.out (by decide +kernel)) rfl ?_
          exact PB_none HBAD.out (hM.sel (R := F) (by repeat (first | (with_reducible exact Sel.refl) | (with_reducible exact Take.head) | (with_reducible apply Take.tail) | (with_reducible apply Sel.cons) | (with_reducible apply Sel.drop))))
      · have hd1 : 1 ≤ d.length ∧ d.length ≤ 256 := by unfold okCh at hok; simpa using hok
        have hd0 : ¬ (d = []) := by rintro rfl; simp at hd1
        have hsb := leaf_sum_le (cs.take j) HOK.out
        rw [← HS.out] at hsb
        have hlk : (cs.take j).length ≤ 200 := by rw [List.length_take]; omega
        have hs2 : s ≤ 51200 := by omega
        have hs1 : 0 ≤ s := hsb.1
        have HOK2 := Lib.hid (all_take_succ ht HOK.out hok)
        have HS2 : Hid (s + (d.length : Int) = sumP (leafP (cs.take (j + 1)))) := by show _ = _; rw [ht, leafP_snoc, sumP_app, HS.out]; simp [sumP]
        have HP : Hid (pvs (leafP (cs.take (j + 1))) = pvs (leafP (cs.take j)) ++ pvs [(onm 1 d, (d.length : Int))]) := by show _ = _; rw [ht, leafP_snoc, pvs_app]
        have HO : Hid (ovs (leafO (cs.take (j + 1))) = ovs (leafO (cs.take j)) ++ ovs [(1, onm 1 d, d)]) := by show _ = _; rw [ht, leafO_snoc, ovs_app]
        have HMK := Lib.hid (fun (L : List SProp) (w : World) (hM : Star L w) => make_star 1 1 rfl d hdx w hM)
        have hid := onm_len 1 d
        generalize onm 1 d = id at HP HO HMK hid
        have HID := Lib.hid hid
        have HBLD := Lib.hid (build_pt id hid (d.length : Int))
        have HOS : Hid ((ocs (1, id, d)).toArray.size = 34) := ocs_sz hid
        have HOL : Hid ((ocs (1, id, d)).length = 34) := ocs_len hid
        have HOS0 : Hid ((ocs (0, z32, [])).toArray.size = 34) := ocs_sz oz32
        have HPL : Hid ((pcs (id, (d.length : Int))).length = 33) := pcs_len hid
        have HPO : Hid (∀ v ∈ pvs [(id, (d.length : Int))], v.oneCell' = true) := pvs_cells _
        have HOO : Hid (∀ v ∈ ovs [(1, id, d)], v.oneCell' = true) := ovs_cells _
        have b1 : decide (256 < (d.length : Int)) = false := by simp; omega
        have HEE : Hid (decide (d = []) = false) := by show _ = _; simpa using hd0
        clear ht hg hdm hok hsb hlk hid hd0
        go_wp2_with (first | (refine BigFrame.wpList_want (by rfl) fun K hK => ws_of_ex (ex_eqs rfl rfl rfl HEE.out) (hK _ _ ?_); clear hK K) | (first | (refine BigFrame.wpList_want (by rfl) fun K hK => ws_rowload rfl rfl (by first | (apply Star.row hM; (repeat (first | assumption | (with_reducible exact List.mem_cons_self) | apply List.mem_cons_of_mem)); done) | (apply Star.own hM; (repeat (first | assumption | (with_reducible exact List.mem_cons_self) | apply List.mem_cons_of_mem)); done) | (apply Star.arr hM; (focus ((repeat (first | assumption | (with_reducible exact List.mem_cons_self) | apply List.mem_cons_of_mem)); done)); assumption)) (by assumption) (by kernel_rfl) (hK _ _ ?_); clear hK K) | fail) | (go_at_call 76; have hM0 := hM; clear hM; (first | (with_reducible refine (HMK.out _ _ hM0).mono ?_) | fail); clear hM0; rintro _ w ⟨rfl, hM⟩) | (first | (have hM0 := hM; clear hM; refine BigFrame.wpList_want (by rfl) fun K hK => ws_alloc hM0 (t := 76) rfl (ocs (0, z32, [])).toArray info_ob (fun g10 w hM => hK _ _ ?_); clear hM0 hK K) | fail) | (first | (have hM0 := hM; clear hM; refine BigFrame.wpList_want (by rfl) fun K hK => ws_store hM0 rfl rfl rfl (by (repeat (first | (with_reducible exact Take.head) | apply Take.tail)); first | done | fail) (n := 34) (by exact HOS.out) (by exact HOS0.out) (by kernel_rfl) (by exact ocs_oneA _) (fun w hM => hK _ _ ?_); clear hM0 hK K) | fail) | (first | (refine BigFrame.wpList_want (by rfl) fun K hK => ws_load hM rfl rfl (by (repeat (first | assumption | (with_reducible exact List.mem_cons_self) | apply List.mem_cons_of_mem)); first | done | fail) (n := 34) (by exact HOS.out) (by decide +kernel) (hK _ _ ?_); clear hK K) | fail) | (refine BigFrame.wpList_want (by rfl) fun K hK => ws_load_mid hM rfl rfl (by (repeat (first | assumption | (with_reducible exact List.mem_cons_self) | apply List.mem_cons_of_mem)); first | done | fail) (bvs id) (ocs_id (1, id, d)) (n := 32) (by rw [bvs_len]; exact HID.out) (by decide +kernel) (hK _ _ ?_); clear hK K) | (refine BigFrame.wpList_want (by rfl) fun K hK => ws_build rfl (.agg (pcs (id, (d.length : Int))).toArray) (by simp only [List.map_toArray, List.map_cons, List.map_nil]; exact HBLD.out _) (hK _ _ ?_); clear hK K) | (first | (have hM0 := hM; clear hM; refine BigFrame.wpList_want (by rfl) fun K hK => ws_slice_row hM0 (n := 1) rfl 76 34 (.agg (ocs (0, z32, [])).toArray) [.agg (ocs (1, id, d)).toArray] Try.underlying65 (by kernel_rfl) rfl (by simp [Value.cells, iv, sv, bv, HOL.out]) (by rfl) (by decide) (cs := ovs [(1, id, d)]) (by rfl) (fun g30 w hM => hK _ _ ?_); clear hM0 hK K) | fail) | (first | (have hM0 := hM; clear hM; refine BigFrame.wpList_want (by rfl) fun K hK => ws_slice_row hM0 (n := 1) rfl 64 33 (.agg (pcs (z32, 0)).toArray) [.agg (pcs (id, (d.length : Int))).toArray] Try.underlying50 (by kernel_rfl) rfl (by simp [Value.cells, iv, sv, bv, HPL.out]) (by rfl) (by decide) (cs := pvs [(id, (d.length : Int))]) (by rfl) (fun g26 w hM => hK _ _ ?_); clear hM0 hK K) | fail) | ((first | (have hM0 := hM; clear hM; refine BigFrame.wpList_want (by rfl) fun K hK => ws_append hM0 rfl rfl rfl 76 ((.agg (ocs (0, z32, [])).toArray)) 34 56 Try.underlying65 (by kernel_rfl) (by exact HOS0.out) (by decide) (by (repeat (first | (with_reducible exact Take.head) | apply Take.tail)); first | done | fail) (by first | (apply Star.row hM0; (repeat (first | assumption | (with_reducible exact List.mem_cons_self) | apply List.mem_cons_of_mem)); done) | (apply Star.own hM0; (repeat (first | assumption | (with_reducible exact List.mem_cons_self) | apply List.mem_cons_of_mem)); done) | (apply Star.arr hM0; (focus ((repeat (first | assumption | (with_reducible exact List.mem_cons_self) | apply List.mem_cons_of_mem)); done)); assumption)) (HOO.out) ((by omega)) (fun A2 c2 w hM hnil => hK _ _ ?_); clear hM0 hK K) | fail); simp only [Act.put, List.setIfInBounds_toArray, List.set_cons_zero, List.set_cons_succ]) | ((first | (have hM0 := hM; clear hM; refine BigFrame.wpList_want (by rfl) fun K hK => ws_append hM0 rfl rfl rfl 64 ((.agg (pcs (z32, 0)).toArray)) 33 40 Try.underlying50 (by kernel_rfl) (by exact pcs_sz z32_32) (by decide) (by (repeat (first | (with_reducible exact Take.head) | apply Take.tail)); first | done | fail) (by first | (apply Star.row hM0; (repeat (first | assumption | (with_reducible exact List.mem_cons_self) | apply List.mem_cons_of_mem)); done) | (apply Star.own hM0; (repeat (first | assumption | (with_reducible exact List.mem_cons_self) | apply List.mem_cons_of_mem)); done) | (apply Star.arr hM0; (focus ((repeat (first | assumption | (with_reducible exact List.mem_cons_self) | apply List.mem_cons_of_mem)); done)); assumption)) (HPO.out) ((by omega)) (fun A1 c1 w hM hnil => hK _ _ ?_); clear hM0 hK K) | fail); simp only [Act.put, List.setIfInBounds_toArray, List.set_cons_zero, List.set_cons_succ]))
        go_roundw
        case rel => exact ⟨j + 1, A1, c1, A2, c2, s + (d.length : Int), by omega, by go_num, rfl, rfl, by go_num, HOK2.out, HS2.out, by rw [HP.out, HO.out]; exact hM.sel (by repeat (first | (with_reducible exact Sel.refl) | (with_reducible exact Take.head) | (with_reducible apply Take.tail) | (with_reducible apply Sel.cons) | (with_reducible apply Sel.drop)))⟩
        case measure => simp [intOf]; omega
    · obtain rfl : j = n := by omega
      have htake : cs.take j = cs := List.take_of_length_le (by rw [HL.out]; omega)
      rw [htake] at hM
      have hok := HOK.out
      have hsv := HS.out
      rw [htake] at hok hsv
      have hsb := leaf_sum_le cs hok
      rw [HL.out, ← hsv] at hsb
      have hnall : ¬ (cs.all okCh = false) := by rw [hok]; simp
      by_cases hc0 : cs = []
      · have hj0 : j = 0 := by rw [← HL.out, hc0]; rfl
        subst hj0
        have hs0 : s = 0 := by rw [hsv, hc0]; rfl
        subst hs0
        have HBAD : Hid (buildB cs = (noPt, [], 10)) := by show _ = _; unfold buildB; rw [if_neg hnall, if_pos hc0]
        clear hnall hok hsb hsv htake hc0
        go_wp2_with (first | (refine BigFrame.wpList_want (by rfl) fun K hK => ws_build (parts := #[]) rfl (.agg (pcs noPt).toArray) (by first | (simp only [List.map_toArray, List.map_nil]; exact build_pt0 _) | (simp only [Array.map_empty]; exact build_pt0 _)) (hK _ _ ?_); clear hK K) | (first | (have hM0 := hM; clear hM; refine BigFrame.wpList_want (by rfl) fun K hK => ws_store hM0 rfl rfl rfl (by (repeat (first | (with_reducible exact Take.head) | apply Take.tail)); first | done | fail) (n := 33) (by exact pcs_sz z32_32) (by exact pcs_sz z32_32) (by kernel_rfl) (by exact pcs_oneA _) (fun w hM => hK _ _ ?_); clear hM0 hK K) | fail))
        refine bodyPost_ret (results_row_tmp2 (P := Try.prog) (ty := 64) rfl _ _ g2 64 (pcs noPt).toArray 33 _ _ rfl rfl rfl (hM.blk (by (repeat (first | assumption | (with_reducible exact List.mem_cons_self) | apply List.mem_cons_of_mem)); first | done | fail)) HN0.out (by decide +kernel)) rfl ?_
        exact PB_none HBAD.out (hM.sel (R := F) (by repeat (first | (with_reducible exact Sel.refl) | (with_reducible exact Take.head) | (with_reducible apply Take.tail) | (with_reducible apply Sel.cons) | (with_reducible apply Sel.drop))))
      have hj1 : 1 ≤ j := by
        have := List.length_pos_iff.2 hc0
        rw [HL.out] at this
        omega
      have hspos : 1 ≤ s := by
        obtain ⟨d, ds, rfl⟩ := List.exists_cons_of_ne_nil hc0
        have h1 := List.all_eq_true.1 hok d List.mem_cons_self
        unfold okCh at h1
        simp only [decide_eq_true_eq] at h1
        have h2 := nn_sum (leafP ds) (leafP_pos ds)
        rw [hsv]
        simp only [leafP, List.map_cons, sumP]
        unfold leafP at h2
        omega
      by_cases hbig : 32768 < s
      · have HBAD : Hid (buildB cs = (noPt, [], 5)) := by show _ = _; unfold buildB; rw [if_neg hnall, if_neg hc0, if_pos (by rw [← hsv]; exact hbig)]
        have b1 : decide (32768 < s) = true := by simpa using hbig
        have b2 : (s == 0) = false := by simp; omega
        have b3 : ¬ (s = 0) := by omega
        clear hnall hok hsb hsv htake hc0
        go_wp2_with (first | (refine BigFrame.wpList_want (by rfl) fun K hK => ws_build (parts := #[]) rfl (.agg (pcs noPt).toArray) (by first | (simp only [List.map_toArray, List.map_nil]; exact build_pt0 _) | (simp only [Array.map_empty]; exact build_pt0 _)) (hK _ _ ?_); clear hK K) | (first | (have hM0 := hM; clear hM; refine BigFrame.wpList_want (by rfl) fun K hK => ws_store hM0 rfl rfl rfl (by (repeat (first | (with_reducible exact Take.head) | apply Take.tail)); first | done | fail) (n := 33) (by exact pcs_sz z32_32) (by exact pcs_sz z32_32) (by kernel_rfl) (by exact pcs_oneA _) (fun w hM => hK _ _ ?_); clear hM0 hK K) | fail))
        refine bodyPost_ret (results_row_tmp2 (P := Try.prog) (ty := 64) rfl _ _ g2 64 (pcs noPt).toArray 33 _ _ rfl rfl rfl (hM.blk (by (repeat (first | assumption | (with_reducible exact List.mem_cons_self) | apply List.mem_cons_of_mem)); first | done | fail)) HN0.out (by decide +kernel)) rfl ?_
        exact PB_none HBAD.out (hM.sel (R := F) (by repeat (first | (with_reducible exact Sel.refl) | (with_reducible exact Take.head) | (with_reducible apply Take.tail) | (with_reducible apply Sel.cons) | (with_reducible apply Sel.drop))))
      · have hLl : (leafP cs).length = j := by rw [leafP_len]; exact HL.out
        have hLo : (leafO cs).length = j := by rw [leafO_len]; exact HL.out
        have HLV1 : Hid (Lvl 1 (leafP cs) (leafO cs)) := ⟨by omega, by omega, by omega, by rw [if_pos rfl]; omega, leafO_32 _, leafP_32 _, leafP_pos _, by omega, by omega⟩
        have HB : Hid (buildB cs = ((climb 4 1 (leafP cs) (leafO cs)).1.headD noPt, (climb 4 1 (leafP cs) (leafO cs)).2, 0)) := by show _ = _; unfold buildB; rw [if_neg hnall, if_neg hc0, if_neg (by rw [← hsv]; exact hbig)]
        obtain ⟨res, hres0⟩ : ∃ res, climb 4 1 (leafP cs) (leafO cs) = res := ⟨_, rfl⟩
        rw [hres0] at HB
        have HC1 : Hid (climb (5 - 1) ((1 : Nat) : Int) (leafP cs) (leafO cs) = res) := hres0
        clear hres0
        generalize leafP cs = l1 at hLl HLV1 HC1 hM
        generalize leafO cs = o1 at hLo HLV1 HC1 hM
        have b1 : decide (32768 < s) = false := by simpa using hbig
        have b2 : (s == 0) = false := by simp; omega
        have b3 : ¬ (s = 0) := by omega
        clear hnall hok hsb hsv htake hc0 HX HOK HS hF hlt
        go_wp2_with fail
        go_loopw [5, 6, 11] (fun O P K wr => ∃ (k : Nat) (l : List Pt) (o : List Ob) (m q : Nat) (B : Option Addr) (cb : Nat) (U : Option Addr) (cu : Nat), K = .int .i64 k ∧ P = .slice B m cb ∧ O = .slice U q cu ∧ Hid (l.length = m) ∧ Hid (o.length = q) ∧ Hid (Lvl k l o) ∧ Hid (climb (5 - k) (k : Int) l o = res) ∧
          Star (ownE 64 33 B m cb (pvs l) :: ownE 76 34 U q cu (ovs o) :: cellsE g2 64 (pcs noPt).toArray :: F) wr) (fun _ _ k _ => 5 - (intOf k).toNat)
        case atStart => exact ⟨1, l1, o1, j, j, B, cb, U, cu, rfl, rfl, rfl, hLl, hLo, HLV1.out, HC1.out, hM.sel (by repeat (first | (with_reducible exact Sel.refl) | (with_reducible exact Take.head) | (with_reducible apply Take.tail) | (with_reducible apply Sel.cons) | (with_reducible apply Sel.drop)))⟩
        case round =>
          clear hM hLl hLo HLV1 HC1
          clear b1 b2 b3
          obtain ⟨k, l, o, m, q, B, cb, U, cu, rfl, rfl, rfl, hlm, hoq, HLV, HCL, hM⟩ := hrel
          have hlv := HLV.out
          have hcl := HCL.out
          have hlm' := hlm.out
          have hoq' := hoq.out
          have k1 := hlv.k1
          have k4 := hlv.k4
          have hone := hlv.one
          have hlen := hlv.len
          have holen := hlv.olen
          have hm512 : m ≤ 512 := by split at hlen <;> (try split at hlen) <;> (try split at hlen) <;> omega
          have hcap := own_cap hM (show ownE 64 33 B m cb (pvs l) ∈ _ from by simp)
          by_cases hgo : k = 1 ∨ 1 < l.length
          · have hlv2 := hlv.up hgo
            have HLEV : ∀ (L : List SProp) (w : World), Star L w → rowE 33 B m (pvs l) ∈ L → Calls Try.prog 77 #[.int .i64 k, .slice B m cb] w fun r w' => ∃ B2 cb2 U2 cu2, r = .returned (.tuple #[.slice B2 (upP k l).length cb2, .slice U2 (upO k l).length cu2]) ∧
              Star (ownE 64 33 B2 (upP k l).length cb2 (pvs (upP k l)) :: ownE 76 34 U2 (upO k l).length cu2 (ovs (upO k l)) :: L) w' := fun L w hM hx =>
              level_star k ⟨by omega, by omega⟩ B m cb l hlv.l32 (fun p hp => ⟨hlv.pos p hp, by have := le_sum l hlv.pos p hp; have := hlv.sum; omega⟩) (by have := hlv.sum; omega) (by omega) (by omega) hcap.1 hcap.2 w hM hx
            have hcl2 : climb (5 - (k + 1)) ((k + 1 : Nat) : Int) (upP k l) (o ++ upO k l) = res := by
              rw [← hcl, show 5 - k = (5 - (k + 1)) + 1 by omega]
              conv => rhs; unfold climb
              rw [if_pos (by rcases hgo with h | h; exact .inl (by omega); exact .inr h)]
              congr 1
            have hol2 := hlv2.olen
            rw [List.length_append] at hol2
            generalize upP (k : Int) l = l2 at hlv2 HLEV hcl2
            generalize upO (k : Int) l = o2 at hlv2 HLEV hcl2 hol2
            obtain ⟨m2, hm2⟩ : ∃ x, l2.length = x := ⟨_, rfl⟩
            obtain ⟨q2, hq2⟩ : ∃ x, o2.length = x := ⟨_, rfl⟩
            rw [hm2, hq2] at HLEV
            have hqq : q + q2 ≤ 1000 := by omega
            have HOO : Hid (∀ v ∈ ovs o2, v.oneCell' = true) := ovs_cells _
            have HOS0 : Hid ((ocs (0, z32, [])).toArray.size = 34) := ocs_sz oz32
            have HM2 := Lib.hid hm2
            have HQ2 : Hid ((o ++ o2).length = q + q2) := by show _ = _; rw [List.length_append]; omega
            have HCL2 := Lib.hid hcl2
            have HLV2 := Lib.hid hlv2
            replace HLEV := Lib.hid HLEV
            replace hM := (hM.take (x := ownE 64 33 B m cb (pvs l)) (by (repeat (first | (with_reducible exact Take.head) | apply Take.tail)); first | done | fail)).freeze
            have hdec : k = 1 ∨ ((k : Int) == 1) = false ∧ decide (1 < (m : Int)) = true ∧ ¬ (k = 1) := by
              rcases hgo with h | h
              · exact .inl h
              · by_cases h2 : k = 1
                · exact .inl h2
                · exact .inr ⟨by simp; omega, by simp; omega, h2⟩
            clear hlv hcl hlm' hoq' hlen holen hcap hgo hlv2 hcl2 hol2 hm2 hq2 HLV HCL hlm hoq hone hm512
            rcases hdec with rfl | ⟨b1, b2, b3⟩
            · rw [show (((1 : Nat) : Int)) = 1 from rfl] at HLEV
              go_wp2_with (first | (go_at_call 77; have hM0 := hM; clear hM; (first | (with_reducible refine (HLEV.out _ _ hM0 (by (repeat (first | assumption | (with_reducible exact List.mem_cons_self) | apply List.mem_cons_of_mem)); first | done | fail)).mono ?_) | fail); clear hM0; rintro _ w ⟨B2, cb2, U2, cu2, rfl, hM⟩) | ((first | (have hM0 := hM; clear hM; refine BigFrame.wpList_want (by rfl) fun K hK => ws_append hM0 rfl rfl rfl 76 ((.agg (ocs (0, z32, [])).toArray)) 34 56 Try.underlying65 (by kernel_rfl) (by exact HOS0.out) (by decide) (by (repeat (first | (with_reducible exact Take.head) | apply Take.tail)); first | done | fail) (by first | (apply Star.row hM0; (repeat (first | assumption | (with_reducible exact List.mem_cons_self) | apply List.mem_cons_of_mem)); done) | (apply Star.own hM0; (repeat (first | assumption | (with_reducible exact List.mem_cons_self) | apply List.mem_cons_of_mem)); done) | (apply Star.arr hM0; (focus ((repeat (first | assumption | (with_reducible exact List.mem_cons_self) | apply List.mem_cons_of_mem)); done)); assumption)) (HOO.out) ((by omega)) (fun A2 c2 w hM hnil => hK _ _ ?_); clear hM0 hK K) | fail); simp only [Act.put, List.setIfInBounds_toArray, List.set_cons_zero, List.set_cons_succ])); go_roundw
              case rel => exact ⟨1 + 1, l2, o ++ o2, m2, q + q2, B2, cb2, A2, c2, by go_num, rfl, rfl, HM2.out, HQ2.out, HLV2.out, HCL2.out, by rw [ovs_app]; exact hM.sel (by repeat (first | (with_reducible exact Sel.refl) | (with_reducible exact Take.head) | (with_reducible apply Take.tail) | (with_reducible apply Sel.cons) | (with_reducible apply Sel.drop)))⟩
              case measure => simp [intOf]
            · go_wp2_with (first | (go_at_call 77; have hM0 := hM; clear hM; (first | (with_reducible refine (HLEV.out _ _ hM0 (by (repeat (first | assumption | (with_reducible exact List.mem_cons_self) | apply List.mem_cons_of_mem)); first | done | fail)).mono ?_) | fail); clear hM0; rintro _ w ⟨B2, cb2, U2, cu2, rfl, hM⟩) | ((first | (have hM0 := hM; clear hM; refine BigFrame.wpList_want (by rfl) fun K hK => ws_append hM0 rfl rfl rfl 76 ((.agg (ocs (0, z32, [])).toArray)) 34 56 Try.underlying65 (by kernel_rfl) (by exact HOS0.out) (by decide) (by (repeat (first | (with_reducible exact Take.head) | apply Take.tail)); first | done | fail) (by first | (apply Star.row hM0; (repeat (first | assumption | (with_reducible exact List.mem_cons_self) | apply List.mem_cons_of_mem)); done) | (apply Star.own hM0; (repeat (first | assumption | (with_reducible exact List.mem_cons_self) | apply List.mem_cons_of_mem)); done) | (apply Star.arr hM0; (focus ((repeat (first | assumption | (with_reducible exact List.mem_cons_self) | apply List.mem_cons_of_mem)); done)); assumption)) (HOO.out) ((by omega)) (fun A2 c2 w hM hnil => hK _ _ ?_); clear hM0 hK K) | fail); simp only [Act.put, List.setIfInBounds_toArray, List.set_cons_zero, List.set_cons_succ])); go_roundw
              case rel => exact ⟨k + 1, l2, o ++ o2, m2, q + q2, B2, cb2, A2, c2, by go_num, rfl, rfl, HM2.out, HQ2.out, HLV2.out, HCL2.out, by rw [ovs_app]; exact hM.sel (by repeat (first | (with_reducible exact Sel.refl) | (with_reducible exact Take.head) | (with_reducible apply Take.tail) | (with_reducible apply Sel.cons) | (with_reducible apply Sel.drop)))⟩
              case measure => simp [intOf]; omega
          · have hk1 : k ≠ 1 := fun h => hgo (.inl h)
            have hm1 : m = 1 := by
              have : ¬ (1 < l.length) := fun h => hgo (.inr h)
              omega
            subst hm1
            have b1 : ((k : Int) == 1) = false := by simp; omega
            have b3 : ¬ (k = 1) := hk1
            obtain ⟨d, rfl⟩ : ∃ d, l = [d] := by
              cases l with
              | nil => simp at hone
              | cons d t => exact ⟨d, by simp at hlm'; rw [hlm']⟩
            have hres : res = ([d], o) := by
              rw [← hcl, show 5 - k = (4 - k) + 1 by omega]
              unfold climb
              rw [if_neg (by rintro (h | h); exact hk1 (by omega); simp at h)]
            rw [hres] at HB
            have hd := hlv.l32 d (by simp)
            have HD := Lib.hid hd
            replace hM := (hM.take (x := ownE 64 33 B 1 cb (pvs [d])) (by (repeat (first | (with_reducible exact Take.head) | apply Take.tail)); first | done | fail)).freeze
            obtain ⟨ad, d', rfl, hc, hg, ht⟩ := Rd.elems (l := [d]) (f := pcs) (hM.row (A := B) (xs := pvs [d]) (by (repeat (first | assumption | (with_reducible exact List.mem_cons_self) | apply List.mem_cons_of_mem)); first | done | fail)) (fun x hx => pcs_len (hlv.l32 x hx)) (by omega) (show 0 < 1 by omega)
            obtain rfl : d = d' := by simpa using hg
            clear hlv hcl hlm' hlen holen hcap hgo HLV HCL hlm hone hm512 hg ht hres k1 k4 hk1 hd
            go_wp2_with (first | ((with_reducible refine at_load' ?_); refine BigFrame.wpList_want (by rfl) fun K hK => ws_load_at rfl rfl (pcs d) hc (n := 33) (pcs_len HD.out) (by decide +kernel) (hK _ _ ?_); clear hK K) | (first | (have hM0 := hM; clear hM; refine BigFrame.wpList_want (by rfl) fun K hK => ws_store hM0 rfl rfl rfl (by (repeat (first | (with_reducible exact Take.head) | apply Take.tail)); first | done | fail) (n := 33) (by exact pcs_sz HD.out) (by exact pcs_sz z32_32) (by kernel_rfl) (by exact pcs_oneA _) (fun w hM => hK _ _ ?_); clear hM0 hK K) | fail))
            refine bodyPost_ret (results_row_tmp2 (P := Try.prog) (ty := 64) rfl _ _ g2 64 (pcs d).toArray 33 _ _ rfl rfl rfl (hM.blk (by (repeat (first | assumption | (with_reducible exact List.mem_cons_self) | apply List.mem_cons_of_mem)); first | done | fail)) (pcs_sz HD.out) (by decide +kernel)) rfl ?_
            unfold PB
            rw [HB.out, hoq.out]
            exact ⟨_, _, rfl, ((hM.take (x := ownE 76 34 U q cu (ovs o)) (by (repeat (first | (with_reducible exact Take.head) | apply Take.tail)); first | done | fail)).freeze).sel (by repeat (first | (with_reducible exact Sel.refl) | (with_reducible exact Take.head) | (with_reducible apply Take.tail) | (with_reducible apply Sel.cons) | (with_reducible apply Sel.drop)))⟩
end Go.Proofs.Ytlhedbjjlomniaa
set_option linter.unusedSimpArgs false
set_option linter.unusedVariables false
namespace Go.Proofs.Ytlhedbjjlomniaa
open Go.RowKit
attribute [local go_sem] extract_mid extract_drop bget bsize wrap64_u8 i64_u8 u64_u8 bappend
/-- The root as the reference tells it: nothing where there is an error. -/
def rootR (b : Pt × List Ob × Int) : Pt := if b.2.2 = 0 then b.1 else ([], 0)
def PRB (F : List SProp) (cs : List (List UInt8)) (r : Ending) (w' : World) : Prop := ∃ U cu, r = .returned (.tuple #[.agg (qtC (rootR (buildB cs)).1 (rootR (buildB cs)).2), .slice U (buildB cs).2.1.length cu, .int .i64 (buildB cs).2.2]) ∧ Star (rowE 3 U (buildB cs).2.1.length (rvs (buildB cs).2.1) :: F) w'
theorem PRB_none {F : List SProp} {cs : List (List UInt8)} {e : Int} {w : World} (h : buildB cs = (noPt, [], e)) (he : e ≠ 0) (hM : Star F w) : PRB F cs (.returned (.tuple #[.agg (qtC [] 0), .slice none 0 0, .int .i64 e])) w := by
  unfold PRB rootR
  rw [h]
  simp only
  rw [if_neg he]
  exact ⟨none, 0, rfl, hM.nilrow 3⟩
theorem info_qt2 : (Try.prog.info? 69).map (fun i => i.zero) = some (some (.agg (qtC [] 0))) := by kernel_rfl
set_option maxRecDepth 100000 in
set_option maxHeartbeats 8000000 in
theorem rbuild_star {F : List SProp} (cs : List (List UInt8)) (A : Option Addr) (n c : Nat) (hn : n ≤ 200) (hx : ∀ x ∈ cs, x.length ≤ 1000000) (w : World) (hM : Star F w) (hF : rowE 1 A n (svs cs) ∈ F) :
    Calls Try.prog 35 #[.slice A n c] w (PRB F cs) := by
  have hlen := svs_row (hM.row hF)
  have HL := Lib.hid hlen
  have HX := Lib.hid hx
  clear hlen hx
  go_enter Try.func35, Try.ntmps35
  go_wp2_with (first | (first | (have hM0 := hM; clear hM; refine BigFrame.wpList_want (by rfl) fun K hK => ws_alloc hM0 (t := 69) rfl (qtC [] 0) info_qt2 (fun g2 w hM => hK _ _ ?_); clear hM0 hK K) | fail) | (first | (have hM0 := hM; clear hM; refine BigFrame.wpList_want (by rfl) fun K hK => ws_slice_own hM0 (n := 0) rfl 69 2 (.agg (qtC [] 0)) [] Try.underlying55 (by kernel_rfl) rfl (by simp [Value.cells, iv, sv, bv]) (by rfl) (by decide) (by decide) (cs := qvs []) (by rfl) (fun g6 w hM => hK _ _ ?_); clear hM0 hK K) | fail) | (first | (have hM0 := hM; clear hM; refine BigFrame.wpList_want (by rfl) fun K hK => ws_slice_own hM0 (n := 0) rfl 74 3 (.agg (roC 0 [] [])) [] Try.underlying70 (by kernel_rfl) rfl (by simp [Value.cells, iv, sv, bv]) (by rfl) (by decide) (by decide) (cs := rvs []) (by rfl) (fun g7 w hM => hK _ _ ?_); clear hM0 hK K) | fail))
  go_loopw [5, 6, 7, 18] (fun P O S i wr => ∃ (j : Nat) (B : Option Addr) (cb : Nat) (U : Option Addr) (cu : Nat) (s : Int), j ≤ n ∧ i = .int .i64 j ∧ P = .slice B j cb ∧ O = .slice U j cu ∧ S = .int .i64 s ∧ Hid ((cs.take j).all okCh = true) ∧ Hid (s = sumP (leafP (cs.take j))) ∧
    Star (ownE 69 2 B j cb (qvs (leafP (cs.take j))) :: ownE 74 3 U j cu (rvs (leafO (cs.take j))) :: cellsE g2 69 (qtC [] 0) :: F) wr) (fun _ _ _ i _ => n - (intOf i).toNat)
  case atStart => exact ⟨0, _, 0, _, 0, 0, by omega, rfl, rfl, rfl, rfl, rfl, rfl, (hM.sel (by repeat (first | (with_reducible exact Sel.refl) | (with_reducible exact Take.head) | (with_reducible apply Take.tail) | (with_reducible apply Sel.cons) | (with_reducible apply Sel.drop))) : Star (ownE 69 2 (some ⟨g6, 0, none⟩) 0 0 (qvs []) :: ownE 74 3 (some ⟨g7, 0, none⟩) 0 0 (rvs []) :: cellsE g2 69 (qtC [] 0) :: F) _)⟩
  case round =>
    clear hM
    obtain ⟨j, B, cb, U, cu, s, hj, rfl, rfl, rfl, rfl, HOK, HS, hM⟩ := hrel
    by_cases hlt : j < n
    · obtain ⟨ad, d, rfl, hc, hg, ht⟩ := hM.elemS (A := A) (n := n) (l := cs) (List.mem_cons_of_mem _ (List.mem_cons_of_mem _ (List.mem_cons_of_mem _ hF))) hlt
      have hdm := List.mem_of_getElem? hg
      have hdx := HX.out d hdm
      rcases hok : okCh d with _ | _
      · have hbad : buildB cs = (noPt, [], 10) := by
          unfold buildB
          rw [if_pos]
          rw [List.all_eq_false]
          exact ⟨d, hdm, by rw [hok]; simp⟩
        have HBAD := Lib.hid hbad
        clear hbad ht hg hdm
        by_cases hd0 : d = []
        · subst hd0
          clear hok
          go_wp2_with (first | (first | (refine BigFrame.wpList_want (by rfl) fun K hK => ws_rowload rfl rfl (by first | (apply Star.row hM; (repeat (first | assumption | (with_reducible exact List.mem_cons_self) | apply List.mem_cons_of_mem)); done) | (apply Star.own hM; (repeat (first | assumption | (with_reducible exact List.mem_cons_self) | apply List.mem_cons_of_mem)); done) | (apply Star.arr hM; (focus ((repeat (first | assumption | (with_reducible exact List.mem_cons_self) | apply List.mem_cons_of_mem)); done)); assumption)) (by assumption) (by kernel_rfl) (hK _ _ ?_); clear hK K) | fail) | (first | (have hM0 := hM; clear hM; refine BigFrame.wpList_want (by rfl) fun K hK => ws_store hM0 rfl rfl rfl (by (repeat (first | (with_reducible exact Take.head) | apply Take.tail)); first | done | fail) (n := 2) (by rfl) (by rfl) (by kernel_rfl) (by simp [Value.oneCell']) (fun w hM => hK _ _ ?_); clear hM0 hK K) | fail))
          refine bodyPost_ret (results_row_tmp2 (P := Try.prog) (ty := 69) rfl _ _ g2 69 _ 2 _ _ rfl rfl rfl (hM.blk (by (repeat (first | assumption | (with_reducible exact List.mem_cons_self) | apply List.mem_cons_of_mem)); first | done | fail)) rfl (by decide +kernel)) rfl ?_
          exact PRB_none HBAD.out (by omega) (hM.sel (R := F) (by repeat (first | (with_reducible exact Sel.refl) | (with_reducible exact Take.head) | (with_reducible apply Take.tail) | (with_reducible apply Sel.cons) | (with_reducible apply Sel.drop))))
        · have hbig : 256 < d.length := by
            have : 0 < d.length := List.length_pos_iff.2 hd0
            unfold okCh at hok
            simp only [decide_eq_false_iff_not] at hok
            omega
          have b1 : decide (256 < (d.length : Int)) = true := by simp; omega
          have b2 : decide ((d.length : Int) < 1) = false := by simp; omega
          clear hok
          go_wp2_with (first | (first | (refine BigFrame.wpList_want (by rfl) fun K hK => ws_rowload rfl rfl (by first | (apply Star.row hM; (repeat (first | assumption | (with_reducible exact List.mem_cons_self) | apply List.mem_cons_of_mem)); done) | (apply Star.own hM; (repeat (first | assumption | (with_reducible exact List.mem_cons_self) | apply List.mem_cons_of_mem)); done) | (apply Star.arr hM; (focus ((repeat (first | assumption | (with_reducible exact List.mem_cons_self) | apply List.mem_cons_of_mem)); done)); assumption)) (by assumption) (by kernel_rfl) (hK _ _ ?_); clear hK K) | fail) | (first | (have hM0 := hM; clear hM; refine BigFrame.wpList_want (by rfl) fun K hK => ws_store hM0 rfl rfl rfl (by (repeat (first | (with_reducible exact Take.head) | apply Take.tail)); first | done | fail) (n := 2) (by rfl) (by rfl) (by kernel_rfl) (by simp [Value.oneCell']) (fun w hM => hK _ _ ?_); clear hM0 hK K) | fail))
          refine bodyPost_ret (results_row_tmp2 (P := Try.prog) (ty := 69) rfl _ _ g2 69 _ 2 _ _ rfl rfl rfl (hM.blk (by (repeat (first | assumption | (with_reducible exact List.mem_cons_self) | apply List.mem_cons_of_mem)); first | done | fail)) rfl (by decide +kernel)) rfl ?_
          exact PRB_none HBAD.out (by omega) (hM.sel (R := F) (by repeat (first | (with_reducible exact Sel.refl) | (with_reducible exact Take.head) | (with_reducible apply Take.tail) | (with_reducible apply Sel.cons) | (with_reducible apply Sel.drop))))
      · have hd1 : 1 ≤ d.length ∧ d.length ≤ 256 := by unfold okCh at hok; simpa using hok
        have hsb := leaf_sum_le (cs.take j) HOK.out
        rw [← HS.out] at hsb
        have hlk : (cs.take j).length ≤ 200 := by rw [List.length_take]; omega
        have hs2 : s ≤ 51200 := by omega
        have hs1 : 0 ≤ s := hsb.1
        have HOK2 := Lib.hid (all_take_succ ht HOK.out hok)
        have HS2 : Hid (s + (d.length : Int) = sumP (leafP (cs.take (j + 1)))) := by show _ = _; rw [ht, leafP_snoc, sumP_app, HS.out]; simp [sumP]
        have HP : Hid (qvs (leafP (cs.take (j + 1))) = qvs (leafP (cs.take j)) ++ qvs [(onm 1 d, (d.length : Int))]) := by show _ = _; rw [ht, leafP_snoc, qvs_app]
        have HO : Hid (rvs (leafO (cs.take (j + 1))) = rvs (leafO (cs.take j)) ++ rvs [(1, onm 1 d, d)]) := by show _ = _; rw [ht, leafO_snoc, rvs_app]
        have HOF : Hid (∀ (L : List SProp) (w : World), Star L w → Calls Try.prog 78 #[.int .i64 1, .string ⟨d.toArray⟩] w fun r w' => r = .returned (.string ⟨(onm 1 d).toArray⟩) ∧ Star L w') := fun L w hM => rOof_star 1 d (by omega) w hM
        generalize onm 1 d = id at HP HO HOF
        have HON : Hid (∀ v ∈ qvs [(id, (d.length : Int))], v.oneCell' = true) := qvs_cells _
        have HOO : Hid (∀ v ∈ rvs [(1, id, d)], v.oneCell' = true) := rvs_cells _
        have b1 : decide (256 < (d.length : Int)) = false := by simp; omega
        have b2 : decide ((d.length : Int) < 1) = false := by simp; omega
        clear ht hg hdm hok hsb hlk
        go_wp2_with (first | (first | (refine BigFrame.wpList_want (by rfl) fun K hK => ws_rowload rfl rfl (by first | (apply Star.row hM; (repeat (first | assumption | (with_reducible exact List.mem_cons_self) | apply List.mem_cons_of_mem)); done) | (apply Star.own hM; (repeat (first | assumption | (with_reducible exact List.mem_cons_self) | apply List.mem_cons_of_mem)); done) | (apply Star.arr hM; (focus ((repeat (first | assumption | (with_reducible exact List.mem_cons_self) | apply List.mem_cons_of_mem)); done)); assumption)) (by assumption) (by kernel_rfl) (hK _ _ ?_); clear hK K) | fail) | (go_at_call 78; have hM0 := hM; clear hM; (first | (with_reducible refine (HOF.out _ _ hM0).mono ?_) | fail); clear hM0; rintro _ w ⟨rfl, hM⟩) | (first | (have hM0 := hM; clear hM; refine BigFrame.wpList_want (by rfl) fun K hK => ws_slice_row hM0 (n := 1) rfl 69 2 (.agg (qtC [] 0)) [.agg (qtC id d.length)] Try.underlying55 (by kernel_rfl) rfl (by simp [Value.cells, iv, sv, bv]) (by rfl) (by decide) (cs := qvs [(id, (d.length : Int))]) (by rfl) (fun g51 w hM => hK _ _ ?_); clear hM0 hK K) | fail) | (first | (have hM0 := hM; clear hM; refine BigFrame.wpList_want (by rfl) fun K hK => ws_slice_row hM0 (n := 1) rfl 74 3 (.agg (roC 0 [] [])) [.agg (roC 1 id d)] Try.underlying70 (by kernel_rfl) rfl (by simp [Value.cells, iv, sv, bv]) (by rfl) (by decide) (cs := rvs [(1, id, d)]) (by rfl) (fun g58 w hM => hK _ _ ?_); clear hM0 hK K) | fail) | (first | (have hM0 := hM; clear hM; refine BigFrame.wpList_want (by rfl) fun K hK => ws_append hM0 rfl rfl rfl 69 ((.agg (qtC [] 0))) 2 24 Try.underlying55 (by kernel_rfl) (by rfl) (by decide) (by (repeat (first | (with_reducible exact Take.head) | apply Take.tail)); first | done | fail) (by first | (apply Star.row hM0; (repeat (first | assumption | (with_reducible exact List.mem_cons_self) | apply List.mem_cons_of_mem)); done) | (apply Star.own hM0; (repeat (first | assumption | (with_reducible exact List.mem_cons_self) | apply List.mem_cons_of_mem)); done) | (apply Star.arr hM0; (focus ((repeat (first | assumption | (with_reducible exact List.mem_cons_self) | apply List.mem_cons_of_mem)); done)); assumption)) (HON.out) ((by omega)) (fun A1 c1 w hM hnil => hK _ _ ?_); clear hM0 hK K) | fail) | (first | (have hM0 := hM; clear hM; refine BigFrame.wpList_want (by rfl) fun K hK => ws_append hM0 rfl rfl rfl 74 ((.agg (roC 0 [] []))) 3 40 Try.underlying70 (by kernel_rfl) (by rfl) (by decide) (by (repeat (first | (with_reducible exact Take.head) | apply Take.tail)); first | done | fail) (by first | (apply Star.row hM0; (repeat (first | assumption | (with_reducible exact List.mem_cons_self) | apply List.mem_cons_of_mem)); done) | (apply Star.own hM0; (repeat (first | assumption | (with_reducible exact List.mem_cons_self) | apply List.mem_cons_of_mem)); done) | (apply Star.arr hM0; (focus ((repeat (first | assumption | (with_reducible exact List.mem_cons_self) | apply List.mem_cons_of_mem)); done)); assumption)) (HOO.out) ((by omega)) (fun A2 c2 w hM hnil => hK _ _ ?_); clear hM0 hK K) | fail))
        go_roundw
        case rel => exact ⟨j + 1, A1, c1, A2, c2, s + (d.length : Int), by omega, by go_num, rfl, rfl, by go_num, HOK2.out, HS2.out, by rw [HP.out, HO.out]; exact hM.sel (by repeat (first | (with_reducible exact Sel.refl) | (with_reducible exact Take.head) | (with_reducible apply Take.tail) | (with_reducible apply Sel.cons) | (with_reducible apply Sel.drop)))⟩
        case measure => simp [intOf]; omega
    · obtain rfl : j = n := by omega
      have htake : cs.take j = cs := List.take_of_length_le (by rw [HL.out]; omega)
      rw [htake] at hM
      have hok := HOK.out
      have hsv := HS.out
      rw [htake] at hok hsv
      have hsb := leaf_sum_le cs hok
      rw [HL.out, ← hsv] at hsb
      have hnall : ¬ (cs.all okCh = false) := by rw [hok]; simp
      by_cases hc0 : cs = []
      · have hj0 : j = 0 := by rw [← HL.out, hc0]; rfl
        subst hj0
        have HBAD : Hid (buildB cs = (noPt, [], 10)) := by show _ = _; unfold buildB; rw [if_neg hnall, if_pos hc0]
        clear hnall hok hsb hsv htake hc0
        go_wp2_with (first | (first | (have hM0 := hM; clear hM; refine BigFrame.wpList_want (by rfl) fun K hK => ws_store hM0 rfl rfl rfl (by (repeat (first | (with_reducible exact Take.head) | apply Take.tail)); first | done | fail) (n := 2) (by rfl) (by rfl) (by kernel_rfl) (by simp [Value.oneCell']) (fun w hM => hK _ _ ?_); clear hM0 hK K) | fail))
        refine bodyPost_ret (results_row_tmp2 (P := Try.prog) (ty := 69) rfl _ _ g2 69 _ 2 _ _ rfl rfl rfl (hM.blk (by (repeat (first | assumption | (with_reducible exact List.mem_cons_self) | apply List.mem_cons_of_mem)); first | done | fail)) rfl (by decide +kernel)) rfl ?_
        exact PRB_none HBAD.out (by omega) (hM.sel (R := F) (by repeat (first | (with_reducible exact Sel.refl) | (with_reducible exact Take.head) | (with_reducible apply Take.tail) | (with_reducible apply Sel.cons) | (with_reducible apply Sel.drop))))
      have hj1 : 1 ≤ j := by
        have := List.length_pos_iff.2 hc0
        rw [HL.out] at this
        omega
      have b0 : ¬ (j = 0) := by omega
      by_cases hbig : 32768 < s
      · have HBAD : Hid (buildB cs = (noPt, [], 5)) := by show _ = _; unfold buildB; rw [if_neg hnall, if_neg hc0, if_pos (by rw [← hsv]; exact hbig)]
        have b1 : decide (32768 < s) = true := by simpa using hbig
        clear hnall hok hsb hsv htake hc0
        go_wp2_with (first | (first | (have hM0 := hM; clear hM; refine BigFrame.wpList_want (by rfl) fun K hK => ws_store hM0 rfl rfl rfl (by (repeat (first | (with_reducible exact Take.head) | apply Take.tail)); first | done | fail) (n := 2) (by rfl) (by rfl) (by kernel_rfl) (by simp [Value.oneCell']) (fun w hM => hK _ _ ?_); clear hM0 hK K) | fail))
        refine bodyPost_ret (results_row_tmp2 (P := Try.prog) (ty := 69) rfl _ _ g2 69 _ 2 _ _ rfl rfl rfl (hM.blk (by (repeat (first | assumption | (with_reducible exact List.mem_cons_self) | apply List.mem_cons_of_mem)); first | done | fail)) rfl (by decide +kernel)) rfl ?_
        exact PRB_none HBAD.out (by omega) (hM.sel (R := F) (by repeat (first | (with_reducible exact Sel.refl) | (with_reducible exact Take.head) | (with_reducible apply Take.tail) | (with_reducible apply Sel.cons) | (with_reducible apply Sel.drop))))
      · have hLl : (leafP cs).length = j := by rw [leafP_len]; exact HL.out
        have hLo : (leafO cs).length = j := by rw [leafO_len]; exact HL.out
        have HLV1 : Hid (Lvl 1 (leafP cs) (leafO cs)) := ⟨by omega, by omega, by omega, by rw [if_pos rfl]; omega, leafO_32 _, leafP_32 _, leafP_pos _, by omega, by omega⟩
        have HB : Hid (buildB cs = ((climb 4 1 (leafP cs) (leafO cs)).1.headD noPt, (climb 4 1 (leafP cs) (leafO cs)).2, 0)) := by show _ = _; unfold buildB; rw [if_neg hnall, if_neg hc0, if_neg (by rw [← hsv]; exact hbig)]
        obtain ⟨res, hres0⟩ : ∃ res, climb 4 1 (leafP cs) (leafO cs) = res := ⟨_, rfl⟩
        rw [hres0] at HB
        have HC1 : Hid (climb (5 - 1) ((1 : Nat) : Int) (leafP cs) (leafO cs) = res) := hres0
        clear hres0
        generalize leafP cs = l1 at hLl HLV1 HC1 hM
        generalize leafO cs = o1 at hLo HLV1 HC1 hM
        have b1 : decide (32768 < s) = false := by simpa using hbig
        clear hnall hok hsb hsv htake hc0 HX HOK HS hF hlt
        go_wp2_with fail
        go_loopw [5, 6, 11] (fun P O K wr => ∃ (k : Nat) (l : List Pt) (o : List Ob) (m q : Nat) (B : Option Addr) (cb : Nat) (U : Option Addr) (cu : Nat), K = .int .i64 k ∧ P = .slice B m cb ∧ O = .slice U q cu ∧ Hid (l.length = m) ∧ Hid (o.length = q) ∧ Hid (Lvl k l o) ∧ Hid (climb (5 - k) (k : Int) l o = res) ∧
          Star (ownE 69 2 B m cb (qvs l) :: ownE 74 3 U q cu (rvs o) :: cellsE g2 69 (qtC [] 0) :: F) wr) (fun _ _ k _ => 5 - (intOf k).toNat)
        case atStart => exact ⟨1, l1, o1, j, j, B, cb, U, cu, rfl, rfl, rfl, hLl, hLo, HLV1.out, HC1.out, hM.sel (by repeat (first | (with_reducible exact Sel.refl) | (with_reducible exact Take.head) | (with_reducible apply Take.tail) | (with_reducible apply Sel.cons) | (with_reducible apply Sel.drop)))⟩
        case round =>
          clear hM hLl hLo HLV1 HC1
          clear b1 b0
          obtain ⟨k, l, o, m, q, B, cb, U, cu, rfl, rfl, rfl, hlm, hoq, HLV, HCL, hM⟩ := hrel
          have hlv := HLV.out
          have hcl := HCL.out
          have hlm' := hlm.out
          have hoq' := hoq.out
          have k1 := hlv.k1
          have k4 := hlv.k4
          have hone := hlv.one
          have hlen := hlv.len
          have holen := hlv.olen
          have hm512 : m ≤ 512 := by split at hlen <;> (try split at hlen) <;> (try split at hlen) <;> omega
          have hcap := own_cap hM (show ownE 69 2 B m cb (qvs l) ∈ _ from by simp)
          have b9 : (k : Int) < 9 := by omega
          by_cases hgo : k = 1 ∨ 1 < l.length
          · have hlv2 := hlv.up hgo
            have HLEV : ∀ (L : List SProp) (w : World), Star L w → rowE 2 B m (qvs l) ∈ L → Calls Try.prog 79 #[.int .i64 k, .slice B m cb] w fun r w' => ∃ B2 cb2 U2 cu2, r = .returned (.tuple #[.slice B2 (upP k l).length cb2, .slice U2 (upO k l).length cu2]) ∧
              Star (ownE 69 2 B2 (upP k l).length cb2 (qvs (upP k l)) :: ownE 74 3 U2 (upO k l).length cu2 (rvs (upO k l)) :: L) w' := fun L w hM hx =>
              rup_star k ⟨by omega, by omega⟩ B m cb l hlv.l32 (fun p hp => ⟨hlv.pos p hp, by have := le_sum l hlv.pos p hp; have := hlv.sum; omega⟩) (by have := hlv.sum; omega) (by omega) (by omega) hcap.1 hcap.2 w hM hx
            have hcl2 : climb (5 - (k + 1)) ((k + 1 : Nat) : Int) (upP k l) (o ++ upO k l) = res := by
              rw [← hcl, show 5 - k = (5 - (k + 1)) + 1 by omega]
              conv => rhs; unfold climb
              rw [if_pos (by rcases hgo with h | h; exact .inl (by omega); exact .inr h)]
              congr 1
            have hol2 := hlv2.olen
            rw [List.length_append] at hol2
            generalize upP (k : Int) l = l2 at hlv2 HLEV hcl2
            generalize upO (k : Int) l = o2 at hlv2 HLEV hcl2 hol2
            obtain ⟨m2, hm2⟩ : ∃ x, l2.length = x := ⟨_, rfl⟩
            obtain ⟨q2, hq2⟩ : ∃ x, o2.length = x := ⟨_, rfl⟩
            rw [hm2, hq2] at HLEV
            have hqq : q + q2 ≤ 1000 := by omega
            have HOO : Hid (∀ v ∈ rvs o2, v.oneCell' = true) := rvs_cells _
            have HM2 := Lib.hid hm2
            have HQ2 : Hid ((o ++ o2).length = q + q2) := by show _ = _; rw [List.length_append]; omega
            have HCL2 := Lib.hid hcl2
            have HLV2 := Lib.hid hlv2
            replace HLEV := Lib.hid HLEV
            replace hM := (hM.take (x := ownE 69 2 B m cb (qvs l)) (by (repeat (first | (with_reducible exact Take.head) | apply Take.tail)); first | done | fail)).freeze
            have hdec : k = 1 ∨ ((k : Int) == 1) = false ∧ decide (1 < (m : Int)) = true ∧ ¬ (k = 1) := by
              rcases hgo with h | h
              · exact .inl h
              · by_cases h2 : k = 1
                · exact .inl h2
                · exact .inr ⟨by simp; omega, by simp; omega, h2⟩
            clear hlv hcl hlm' hoq' hlen holen hcap hgo hlv2 hcl2 hol2 hm2 hq2 HLV HCL hlm hoq hone hm512
            rcases hdec with rfl | ⟨b1, b2, b3⟩
            · rw [show (((1 : Nat) : Int)) = 1 from rfl] at HLEV
              go_wp2_with (first | (go_at_call 79; have hM0 := hM; clear hM; (first | (with_reducible refine (HLEV.out _ _ hM0 (by (repeat (first | assumption | (with_reducible exact List.mem_cons_self) | apply List.mem_cons_of_mem)); first | done | fail)).mono ?_) | fail); clear hM0; rintro _ w ⟨B2, cb2, U2, cu2, rfl, hM⟩) | (first | (have hM0 := hM; clear hM; refine BigFrame.wpList_want (by rfl) fun K hK => ws_append hM0 rfl rfl rfl 74 ((.agg (roC 0 [] []))) 3 40 Try.underlying70 (by kernel_rfl) (by rfl) (by decide) (by (repeat (first | (with_reducible exact Take.head) | apply Take.tail)); first | done | fail) (by first | (apply Star.row hM0; (repeat (first | assumption | (with_reducible exact List.mem_cons_self) | apply List.mem_cons_of_mem)); done) | (apply Star.own hM0; (repeat (first | assumption | (with_reducible exact List.mem_cons_self) | apply List.mem_cons_of_mem)); done) | (apply Star.arr hM0; (focus ((repeat (first | assumption | (with_reducible exact List.mem_cons_self) | apply List.mem_cons_of_mem)); done)); assumption)) (HOO.out) ((by omega)) (fun A2 c2 w hM hnil => hK _ _ ?_); clear hM0 hK K) | fail)); go_roundw
              case rel => exact ⟨1 + 1, l2, o ++ o2, m2, q + q2, B2, cb2, A2, c2, by go_num, rfl, rfl, HM2.out, HQ2.out, HLV2.out, HCL2.out, by rw [rvs_app]; exact hM.sel (by repeat (first | (with_reducible exact Sel.refl) | (with_reducible exact Take.head) | (with_reducible apply Take.tail) | (with_reducible apply Sel.cons) | (with_reducible apply Sel.drop)))⟩
              case measure => simp [intOf]
            · go_wp2_with (first | (go_at_call 79; have hM0 := hM; clear hM; (first | (with_reducible refine (HLEV.out _ _ hM0 (by (repeat (first | assumption | (with_reducible exact List.mem_cons_self) | apply List.mem_cons_of_mem)); first | done | fail)).mono ?_) | fail); clear hM0; rintro _ w ⟨B2, cb2, U2, cu2, rfl, hM⟩) | (first | (have hM0 := hM; clear hM; refine BigFrame.wpList_want (by rfl) fun K hK => ws_append hM0 rfl rfl rfl 74 ((.agg (roC 0 [] []))) 3 40 Try.underlying70 (by kernel_rfl) (by rfl) (by decide) (by (repeat (first | (with_reducible exact Take.head) | apply Take.tail)); first | done | fail) (by first | (apply Star.row hM0; (repeat (first | assumption | (with_reducible exact List.mem_cons_self) | apply List.mem_cons_of_mem)); done) | (apply Star.own hM0; (repeat (first | assumption | (with_reducible exact List.mem_cons_self) | apply List.mem_cons_of_mem)); done) | (apply Star.arr hM0; (focus ((repeat (first | assumption | (with_reducible exact List.mem_cons_self) | apply List.mem_cons_of_mem)); done)); assumption)) (HOO.out) ((by omega)) (fun A2 c2 w hM hnil => hK _ _ ?_); clear hM0 hK K) | fail)); go_roundw
              case rel => exact ⟨k + 1, l2, o ++ o2, m2, q + q2, B2, cb2, A2, c2, by go_num, rfl, rfl, HM2.out, HQ2.out, HLV2.out, HCL2.out, by rw [rvs_app]; exact hM.sel (by repeat (first | (with_reducible exact Sel.refl) | (with_reducible exact Take.head) | (with_reducible apply Take.tail) | (with_reducible apply Sel.cons) | (with_reducible apply Sel.drop)))⟩
              case measure => simp [intOf]; omega
          · have hk1 : k ≠ 1 := fun h => hgo (.inl h)
            have hm1 : m = 1 := by
              have : ¬ (1 < l.length) := fun h => hgo (.inr h)
              omega
            subst hm1
            have b1 : ((k : Int) == 1) = false := by simp; omega
            have b3 : ¬ (k = 1) := hk1
            obtain ⟨d, rfl⟩ : ∃ d, l = [d] := by
              cases l with
              | nil => simp at hone
              | cons d t => exact ⟨d, by simp at hlm'; rw [hlm']⟩
            have hres : res = ([d], o) := by
              rw [← hcl, show 5 - k = (4 - k) + 1 by omega]
              unfold climb
              rw [if_neg (by rintro (h | h); exact hk1 (by omega); simp at h)]
            rw [hres] at HB
            replace hM := (hM.take (x := ownE 69 2 B 1 cb (qvs [d])) (by (repeat (first | (with_reducible exact Take.head) | apply Take.tail)); first | done | fail)).freeze
            obtain ⟨ad, d', rfl, hc, hg, ht⟩ := Rd.elems (l := [d]) (f := qcs) (hM.row (A := B) (xs := qvs [d]) (by (repeat (first | assumption | (with_reducible exact List.mem_cons_self) | apply List.mem_cons_of_mem)); first | done | fail)) (fun x hx => qcs_len x) (by omega) (show 0 < 1 by omega)
            obtain rfl : d = d' := by simpa using hg
            obtain ⟨di, x⟩ := d
            clear hlv hcl hlm' hlen holen hcap hgo HLV HCL hlm hone hm512 hg ht hres k1 k4 hk1
            go_wp2_with (first | ((with_reducible refine at_load' ?_); refine BigFrame.wpList_want (by rfl) fun K hK => ws_load_at rfl rfl [.string ⟨di.toArray⟩, .int .i64 x] hc (n := 2) rfl (by decide +kernel) (hK _ _ ?_); clear hK K) | (first | (have hM0 := hM; clear hM; refine BigFrame.wpList_want (by rfl) fun K hK => ws_store hM0 rfl rfl rfl (by (repeat (first | (with_reducible exact Take.head) | apply Take.tail)); first | done | fail) (n := 2) (by rfl) (by rfl) (by kernel_rfl) (by simp [Value.oneCell']) (fun w hM => hK _ _ ?_); clear hM0 hK K) | fail))
            refine bodyPost_ret (results_row_tmp2 (P := Try.prog) (ty := 69) rfl _ _ g2 69 _ 2 _ _ rfl rfl rfl (hM.blk (by (repeat (first | assumption | (with_reducible exact List.mem_cons_self) | apply List.mem_cons_of_mem)); first | done | fail)) rfl (by decide +kernel)) rfl ?_
            unfold PRB rootR
            rw [HB.out, hoq.out]
            simp only [if_true, List.headD_cons]
            exact ⟨_, _, rfl, ((hM.take (x := ownE 74 3 U q cu (rvs o)) (by (repeat (first | (with_reducible exact Take.head) | apply Take.tail)); first | done | fail)).freeze).sel (by repeat (first | (with_reducible exact Sel.refl) | (with_reducible exact Take.head) | (with_reducible apply Take.tail) | (with_reducible apply Sel.cons) | (with_reducible apply Sel.drop)))⟩
end Go.Proofs.Ytlhedbjjlomniaa
set_option linter.unusedSimpArgs false
set_option linter.unusedVariables false
namespace Go.Proofs.Ytlhedbjjlomniaa
/-- An object bears the name of its bytes. -/
def goodO (o : Ob) : Prop := ∃ kd : UInt8, o.1 = kd.toNat ∧ (kd = 1 ∨ kd = 2) ∧ o.2.1 = onm kd o.2.2 ∧ o.2.2.length ≤ 1000
theorem grp_mem {l : List Pt} {g : List Pt} (h : g ∈ grp l) : (∀ p ∈ g, p ∈ l) ∧ g.length ≤ 8 := by
  unfold grp at h
  obtain ⟨i, _, rfl⟩ := List.mem_map.1 h
  exact ⟨fun p hp => List.mem_of_mem_drop (List.mem_of_mem_take hp), by rw [List.length_take]; omega⟩
theorem leafO_good (cs : List (List UInt8)) (h : cs.all okCh = true) : ∀ o ∈ leafO cs, goodO o := by
  intro o ho
  obtain ⟨c, hc, rfl⟩ := List.mem_map.1 ho
  have := List.all_eq_true.1 h c hc
  unfold okCh at this
  simp only [decide_eq_true_eq] at this
  exact ⟨1, rfl, .inl rfl, rfl, by simp only; omega⟩
theorem upO_good (k : Int) (l : List Pt) (h : ok32 l) : ∀ o ∈ upO k l, goodO o := by
  intro o ho
  obtain ⟨g, hg, rfl⟩ := List.mem_map.1 ho
  obtain ⟨h1, h2⟩ := grp_mem hg
  exact ⟨2, rfl, .inr rfl, rfl, by have := textN_len (k, g) (fun p hp => h p (h1 p hp)) h2; simp only; omega⟩
theorem climb_good : ∀ (f : Nat) (k : Int) (l : List Pt) (o : List Ob), ok32 l → (∀ x ∈ o, goodO x) → (∀ x ∈ (climb f k l o).2, goodO x) ∧ ok32 (climb f k l o).1
  | 0, _, l, o, h1, h2 => ⟨h2, h1⟩
  | f + 1, k, l, o, h1, h2 => by
    unfold climb
    split
    · refine climb_good f (k + 1) _ _ (upP_32 k l) fun x hx => ?_
      rcases List.mem_append.1 hx with hx | hx
      · exact h2 x hx
      · exact upO_good k l h1 x hx
    · exact ⟨h2, h1⟩
theorem build_good (cs : List (List UInt8)) : (∀ o ∈ (buildB cs).2.1, goodO o) ∧ (buildB cs).1.1.length = 32 := by
  unfold buildB
  split
  · exact ⟨by simp, z32_len⟩
  split
  · exact ⟨by simp, z32_len⟩
  split
  · exact ⟨by simp, z32_len⟩
  · rename_i h _ _
    have h' : cs.all okCh = true := by simpa using h
    have hc := climb_good 4 1 (leafP cs) (leafO cs) (leafP_32 cs) (leafO_good cs h')
    refine ⟨hc.1, ?_⟩
    simp only
    cases hl : (climb 4 1 (leafP cs) (leafO cs)).1 with
    | nil => exact z32_len
    | cons p t => exact hc.2 p (by rw [hl]; exact List.mem_cons_self)
theorem good_32 {o : Ob} (h : goodO o) : o.2.1.length = 32 := by
  obtain ⟨kd, _, _, h, _⟩ := h
  rw [h]
  exact onm_len _ _
theorem climb_count : ∀ (f : Nat) (k : Nat) (l : List Pt) (o : List Ob), Lvl k l o → (climb f k l o).2.length ≤ 1000
  | 0, k, l, o, h => by have := h.olen; have := h.k4; unfold climb; simp only; omega
  | f + 1, k, l, o, h => by
    unfold climb
    split
    · rename_i hg
      have := climb_count f (k + 1) _ _ (h.up (by rcases hg with h | h; exact .inl (by omega); exact .inr h))
      exact this
    · have := h.olen; have := h.k4; simp only; omega
theorem build_count (cs : List (List UInt8)) (h : cs.length ≤ 200) : (buildB cs).2.1.length ≤ 1000 := by
  unfold buildB
  split
  · simp
  split
  · simp
  split
  · simp
  · rename_i h1 h2 h3
    have hpos := List.length_pos_iff.2 h2
    exact climb_count 4 1 _ _ ⟨by omega, by omega, by rw [leafP_len]; omega, by rw [leafP_len, if_pos rfl]; omega, leafO_32 _, leafP_32 _, leafP_pos _, by omega, by rw [leafO_len]; omega⟩
/-- One group. -/
theorem grp_one {l : List Pt} (h1 : 1 ≤ l.length) (h8 : l.length ≤ 8) : grp l = [l] := by
  unfold grp
  rw [show (l.length + 7) / 8 = 1 by omega]
  simp [List.take_of_length_le h8]
theorem upP_one (k : Int) {l : List Pt} (h1 : 1 ≤ l.length) (h8 : l.length ≤ 8) : upP k l = [(onm 2 (textN (k, l)), sumP l)] := by unfold upP; rw [grp_one h1 h8]; rfl
theorem upO_one (k : Int) {l : List Pt} (h1 : 1 ≤ l.length) (h8 : l.length ≤ 8) : upO k l = [(2, onm 2 (textN (k, l)), textN (k, l))] := by unfold upO; rw [grp_one h1 h8]; rfl
theorem climb_stop {l : List Pt} (o : List Ob) {k : Int} (hl : l.length ≤ 1) (hk : k ≠ 1) : ∀ f, climb f k l o = (l, o)
  | 0 => rfl
  | f + 1 => by unfold climb; rw [if_neg (by rintro (h | h); exact hk h; omega)]
theorem climb_go {f : Nat} {k : Int} {l : List Pt} {o : List Ob} (h : k = 1 ∨ 1 < l.length) : climb (f + 1) k l o = climb f (k + 1) (upP k l) (o ++ upO k l) := by
  conv => lhs; unfold climb
  rw [if_pos h]
/-- What few chunks become. -/
theorem build_few (cs : List (List UInt8)) (h : cs.all okCh = true) (h1 : 1 ≤ cs.length) (h8 : cs.length ≤ 8) :
    buildB cs = ((onm 2 (textN (1, leafP cs)), sumP (leafP cs)), leafO cs ++ [(2, onm 2 (textN (1, leafP cs)), textN (1, leafP cs))], 0) := by
  have hs := sumP_le 256 (leafP cs) fun p hp => by
    obtain ⟨g, hg, rfl⟩ := List.mem_map.1 hp
    have h1 := List.all_eq_true.1 h g hg
    unfold okCh at h1
    simp only [decide_eq_true_eq] at h1
    simp only
    omega
  rw [leafP_len] at hs
  have hl := leafP_len cs
  unfold buildB
  rw [if_neg (by simp [h]), if_neg (by rintro rfl; simp at h1), if_neg (by omega), climb_go (.inl rfl), upP_one 1 (by omega) (by omega), upO_one 1 (by omega) (by omega), climb_stop _ (by simp) (by omega)]
  rfl
theorem firstBad_good {m : Int} : ∀ {l : List Pt}, (∀ p ∈ l, 1 ≤ p.2 ∧ p.2 ≤ m) → firstBad m l = 0
  | [], _ => rfl
  | p :: l, h => by
    have h1 := h p List.mem_cons_self
    rw [firstBad_cons, if_neg (by omega), if_neg (by omega)]
    exact firstBad_good fun q hq => h q (List.mem_cons_of_mem _ hq)
theorem checkN_good {k : Int} {l : List Pt} (h1 : 1 ≤ k ∧ k ≤ 8) (h2 : 1 ≤ l.length ∧ l.length ≤ 8) (h3 : ∀ p ∈ l, 1 ≤ p.2 ∧ p.2 ≤ mostN k) (h4 : sumP l ≤ 32768) : checkN (k, l) = 0 := by
  unfold checkN
  simp only
  rw [firstBad_good h3]
  repeat' split
  all_goals first | rfl | omega
theorem upP_sizes {k : Int} {l : List Pt} {m : Int} (h : ∀ p ∈ l, 1 ≤ p.2 ∧ p.2 ≤ m) : ∀ p ∈ upP k l, 1 ≤ p.2 ∧ p.2 ≤ 8 * m := by
  intro p hp
  obtain ⟨g, hg, rfl⟩ := List.mem_map.1 hp
  unfold grp at hg
  obtain ⟨i, hi, rfl⟩ := List.mem_map.1 hg
  rw [List.mem_range] at hi
  have hm : ∀ q ∈ (l.drop (8 * i)).take 8, 1 ≤ q.2 ∧ q.2 ≤ m := fun q hq => h q (List.mem_of_mem_drop (List.mem_of_mem_take hq))
  have hs := sumP_le m _ fun q hq => ⟨by have := hm q hq; omega, (hm q hq).2⟩
  have hlen : 1 ≤ ((l.drop (8 * i)).take 8).length ∧ ((l.drop (8 * i)).take 8).length ≤ 8 := by rw [List.length_take, List.length_drop]; omega
  generalize (l.drop (8 * i)).take 8 = g at hm hs hlen
  refine ⟨?_, ?_⟩
  · cases g with
    | nil => simp at hlen
    | cons q g =>
      have h1 := (hm q List.mem_cons_self).1
      have h2 := nn_sum g fun r hr => by have := hm r (List.mem_cons_of_mem _ hr); omega
      simp only [sumP]
      omega
  · have hmp : 1 ≤ m := by
      cases g with
      | nil => simp at hlen
      | cons q g => have := hm q List.mem_cons_self; omega
    have h3 : m * (g.length : Int) ≤ m * 8 := Int.mul_le_mul_of_nonneg_left (by omega) (by omega)
    simp only
    omega
def depthN (n : Nat) : Int := if n ≤ 8 then 1 else if n ≤ 64 then 2 else 3
/-- How many nodes. -/
def nodesN (n : Nat) : Nat := if n ≤ 8 then 1 else if n ≤ 64 then (n + 7) / 8 + 1 else (n + 7) / 8 + (((n + 7) / 8 + 7) / 8 + 1)
/-- The root over chunks of two bytes. -/
theorem build_depth (cs : List (List UInt8)) (n : Nat) (hn : cs.length = n) (h1 : 1 ≤ n) (h2 : n ≤ 200) (h : ∀ c ∈ cs, c.length = 2) :
    ∃ (os : List Ob) (id : List UInt8) (l : List Pt), buildB cs = ((id, 2 * (n : Int)), os ++ [(2, id, textN (depthN n, l))], 0) ∧ os.length + 1 = n + nodesN n ∧ checkN (depthN n, l) = 0 ∧ ok32 l ∧ id.length = 32 ∧ l.length ≤ 8 := by
  have hall : cs.all okCh = true := by
    rw [List.all_eq_true]
    intro c hc
    unfold okCh
    have := h c hc
    simp only [decide_eq_true_eq]
    omega
  have hl0 : (leafP cs).length = n := by rw [leafP_len, hn]
  have ho0 : (leafO cs).length = n := by rw [leafO_len, hn]
  have hs0 : sumP (leafP cs) = 2 * (n : Int) := by
    subst hn
    clear hl0 ho0 hall h1 h2
    induction cs with
    | nil => rfl
    | cons c cs ih =>
      have h3 := h c List.mem_cons_self
      have h4 := ih fun d hd => h d (List.mem_cons_of_mem _ hd)
      unfold leafP at h4 ⊢
      simp only [List.map_cons, sumP, List.length_cons, h4, h3]
      omega
  have hz0 : ∀ p ∈ leafP cs, 1 ≤ p.2 ∧ p.2 ≤ 2 := by
    intro p hp
    obtain ⟨g, hg, rfl⟩ := List.mem_map.1 hp
    have := h g hg
    simp only
    omega
  have e0 : buildB cs = ((climb 4 1 (leafP cs) (leafO cs)).1.headD noPt, (climb 4 1 (leafP cs) (leafO cs)).2, 0) := by
    unfold buildB
    rw [if_neg (by simp [hall]), if_neg (by rintro rfl; simp at hn; omega), if_neg (by omega)]
  have h32 := leafP_32 cs
  rw [e0]
  generalize leafP cs = l0 at *
  generalize leafO cs = o0 at *
  rw [climb_go (.inl rfl)]
  by_cases c8 : n ≤ 8
  · rw [upP_one 1 (by omega) (by omega), upO_one 1 (by omega) (by omega), climb_stop _ (by simp) (by omega), hs0]
    refine ⟨o0, onm 2 (textN (1, l0)), l0, by unfold depthN; rw [if_pos c8]; rfl, by unfold nodesN; rw [if_pos c8]; omega, ?_, h32, onm_len _ _, by omega⟩
    unfold depthN
    rw [if_pos c8]
    exact checkN_good (by omega) (by omega) (fun p hp => ⟨(hz0 p hp).1, by have := (hz0 p hp).2; have := (mostN_le 1).1; omega⟩) (by omega)
  have hl1 : (upP 1 l0).length = (n + 7) / 8 := by rw [upP_len, hl0]
  have hp1 : (upO 1 l0).length = (n + 7) / 8 := by rw [upO_len, hl0]
  have hs1 : sumP (upP 1 l0) = 2 * (n : Int) := by rw [upP_sum, hs0]
  have hz1 := upP_sizes (k := 1) hz0
  have h32' := upP_32 1 l0
  generalize upP 1 l0 = l1 at *
  generalize upO 1 l0 = o1 at *
  rw [climb_go (.inr (by omega))]
  by_cases c64 : n ≤ 64
  · rw [upP_one _ (by omega) (by omega), upO_one _ (by omega) (by omega), climb_stop _ (by simp) (by omega), hs1]
    refine ⟨o0 ++ o1, onm 2 (textN (2, l1)), l1, by unfold depthN; rw [if_neg c8, if_pos c64]; rfl, by unfold nodesN; rw [if_neg c8, if_pos c64, List.length_append]; omega, ?_, h32', onm_len _ _, by omega⟩
    unfold depthN
    rw [if_neg c8, if_pos c64]
    exact checkN_good (by omega) (by omega) (fun p hp => ⟨(hz1 p hp).1, by have := (hz1 p hp).2; have := (mostN_le 2).1; omega⟩) (by omega)
  have hl2 : (upP (1 + 1) l1).length = ((n + 7) / 8 + 7) / 8 := by rw [upP_len, hl1]
  have hp2 : (upO (1 + 1) l1).length = ((n + 7) / 8 + 7) / 8 := by rw [upO_len, hl1]
  have hs2 : sumP (upP (1 + 1) l1) = 2 * (n : Int) := by rw [upP_sum, hs1]
  have hz2 := upP_sizes (k := 1 + 1) hz1
  have h32'' := upP_32 (1 + 1) l1
  generalize upP (1 + 1) l1 = l2 at *
  generalize upO (1 + 1) l1 = o2 at *
  rw [climb_go (.inr (by omega)), upP_one _ (by omega) (by omega), upO_one _ (by omega) (by omega), climb_stop _ (by simp) (by omega), hs2]
  refine ⟨o0 ++ o1 ++ o2, onm 2 (textN (3, l2)), l2, by unfold depthN; rw [if_neg c8, if_neg c64]; rfl, by unfold nodesN; rw [if_neg c8, if_neg c64, List.length_append, List.length_append]; omega, ?_, h32'', onm_len _ _, by omega⟩
  unfold depthN
  rw [if_neg c8, if_neg c64]
  exact checkN_good (by omega) (by omega) (fun p hp => ⟨(hz2 p hp).1, by have := (hz2 p hp).2; have := (mostN_le 3).1; omega⟩) (by omega)
end Go.Proofs.Ytlhedbjjlomniaa
set_option linter.unusedSimpArgs false
set_option linter.unusedVariables false
namespace Go.Proofs.Ytlhedbjjlomniaa
open Go.RowKit
attribute [local go_sem] extract_mid extract_drop bget bsize wrap64_u8 i64_u8 u64_u8 bappend
theorem Rd.flat {w : World} {A : Option Addr} {n size : Nat} {xs : List Value} (h : Rd w size A n xs) (hs : 0 < size) : Rd w 1 A (n * size) xs :=
  ⟨by rw [h.1, Nat.mul_one], fun hn => h.2 (by rcases Nat.eq_zero_or_pos n with rfl | h; simp at hn; exact h)⟩
theorem Star.flat {L : List SProp} {w : World} {A : Option Addr} {n size : Nat} {xs : List Value} (h : Star L w) (hx : rowE size A n xs ∈ L) (hs : 0 < size) : Star (rowE 1 A (n * size) xs :: L) w :=
  h.view hx rfl rfl (fun k ⟨ad, e, hn, hk⟩ => ⟨ad, e, by rcases Nat.eq_zero_or_pos n with rfl | h; simp at hn; exact h, hk⟩) ((h.row hx).flat hs)
theorem add_mk (ad : Addr) (j m : Nat) (hm : 0 < m) : (⟨(ad.add j).block, (ad.add j).off + m, none⟩ : Addr) = ad.add (j + m) := by
  unfold Addr.add
  rw [if_neg (show ¬ (j + m = 0) by omega)]
  split
  · rename_i h
    subst h
    simp
  · simp only [Addr.mk.injEq, and_true, true_and]
    omega
/-- Some cells of a row. -/
theorem Rd.part {w : World} {ad : Addr} {n size o : Nat} {xs cs : List Value} (h : Rd w size (some ad) n xs) (hn : 0 < n) (hs : ∀ j v, cs[j]? = some v → xs[o + j]? = some v) : ∀ j v, cs[j]? = some v → w.cell? ((ad.add o).add j) = some v := by
  intro j v hj
  obtain ⟨ad', e, _, hc⟩ := h.2 hn
  injection e with e
  subst e
  rw [add_of_add]
  exact hc _ v (hs j v hj)
theorem pvs_id {l : List Pt} (h32 : ok32 l) {k : Nat} {d : Pt} (hd : l[k]? = some d) : ∀ j v, (bvs d.1)[j]? = some v → (pvs l)[k * 33 + j]? = some v := by
  intro j v hj
  refine flat_get pcs 33 l (fun x hx => pcs_len (h32 x hx)) k d hd j v ?_
  have := pcs_id d j v hj
  simpa using this
theorem pvs_sz {l : List Pt} (h32 : ok32 l) {k : Nat} {d : Pt} (hd : l[k]? = some d) : (pvs l)[k * 33 + 32]? = some (.int .i64 d.2) :=
  flat_get pcs 33 l (fun x hx => pcs_len (h32 x hx)) k d hd 32 _ (by have := pcs_32 (h32 d (List.mem_of_getElem? hd)); simpa using this)
theorem depth_any (n : Nat) (hn : n ≤ 512) (w : World) : Calls Try.prog 38 #[.int .i64 n] w fun r w' => r = .returned (.int .i64 (depthN n)) ∧ w = w' := by
  go_enter Try.func38, Try.ntmps38
  go_wp2
  go_loopw [3, 4] (fun v i wr => ∃ (k : Nat) (y : Nat), v = .int .i64 k ∧ i = .int .i64 y ∧ Hid ((k = 1 ∧ y = 8) ∨ (k = 2 ∧ y = 64 ∧ 8 < n) ∨ (k = 3 ∧ y = 512 ∧ 64 < n)) ∧ w = wr) (fun v _ _ => 4 - (intOf v).toNat)
  case atStart => exact ⟨1, 8, rfl, rfl, .inl ⟨rfl, rfl⟩, rfl⟩
  case round =>
    obtain ⟨k, y, rfl, rfl, HY, rfl⟩ := hrel
    rcases HY.out with ⟨rfl, rfl⟩ | ⟨rfl, rfl, h8⟩ | ⟨rfl, rfl, h8⟩
    · clear HY
      by_cases h : 8 < n
      · have b1 : ((8 : Nat) : Int) < (n : Int) := by omega
        go_wp2
        go_roundw
        case rel => exact ⟨2, 64, by go_num, by go_num, .inr (.inl ⟨rfl, rfl, h⟩), (by first | rfl | trivial)⟩
        case measure => simp [intOf]
      · have b1 : ¬ (((8 : Nat) : Int) < (n : Int)) := by omega
        go_wp2
        go_ret
        exact ⟨ret_int (by unfold depthN; rw [if_pos (by omega)]), rfl⟩
    · clear HY
      by_cases h : 64 < n
      · have b1 : ((64 : Nat) : Int) < (n : Int) := by omega
        go_wp2
        go_roundw
        case rel => exact ⟨3, 512, by go_num, by go_num, .inr (.inr ⟨rfl, rfl, h⟩), (by first | rfl | trivial)⟩
        case measure => simp [intOf]
      · have b1 : ¬ (((64 : Nat) : Int) < (n : Int)) := by omega
        go_wp2
        go_ret
        exact ⟨ret_int (by unfold depthN; rw [if_neg (by omega), if_pos (by omega)]), rfl⟩
    · clear HY
      have b1 : ¬ (((512 : Nat) : Int) < (n : Int)) := by omega
      go_wp2
      go_ret
      exact ⟨ret_int (by unfold depthN; rw [if_neg (by omega), if_neg (by omega)]), rfl⟩
set_option maxRecDepth 100000 in
set_option maxHeartbeats 8000000 in
theorem is09_star {F : List SProp} (lv : Int) (l : List Pt) (h32 : ok32 l) (A : Option Addr) (n c : Nat) (B : Option Addr) (d : Nat) (hn : n ≤ 1000) (w : World) (hM : Star F w) (h1 : rowE 33 A n (pvs l) ∈ F) (h2 : rowE 2 B n (qvs l) ∈ F) :
    Calls Try.prog 31 #[.agg (ndC lv A n c), .agg (ndC lv B n d)] w fun r w' => r = .returned (.bool true) ∧ Star F w' := by
  have hlen := pvs_row (hM.row h1) h32
  have HL := Lib.hid hlen
  have H32 := Lib.hid h32
  clear hlen h32
  go_enter Try.func31, Try.ntmps31
  go_wp2_with (first | (first | ((with_reducible refine at_box' ?_); (have hM0 := hM; clear hM; refine BigFrame.wpList_want (by rfl) fun K hK => ws_box hM0 rfl rfl (cs := ndC lv A n c) rfl (fun g2 w hM => hK _ _ ?_); clear hM0 hK K)) | fail) | (first | ((with_reducible refine at_box' ?_); (have hM0 := hM; clear hM; refine BigFrame.wpList_want (by rfl) fun K hK => ws_box hM0 rfl rfl (cs := ndC lv B n d) rfl (fun g3 w hM => hK _ _ ?_); clear hM0 hK K)) | fail) | (first | ((with_reducible refine at_load' ?_); (refine BigFrame.wpList_want (by rfl) fun K hK => ws_load1 hM rfl rfl (by (repeat (first | assumption | (with_reducible exact List.mem_cons_self) | apply List.mem_cons_of_mem)); first | done | fail) (by first | rfl | assumption) (by decide +kernel) (hK _ _ ?_); clear hK K)) | fail))
  go_loopw [24] (fun i wr => ∃ (k : Nat), k ≤ n ∧ i = .int .i64 k ∧ Star (cellsE g2 52 (ndC lv A n c) :: F) wr) (fun i _ => n - (intOf i).toNat)
  case atStart => exact ⟨0, by omega, rfl, hM.sel (by repeat (first | (with_reducible exact Sel.refl) | (with_reducible exact Take.head) | (with_reducible apply Take.tail) | (with_reducible apply Sel.cons) | (with_reducible apply Sel.drop)))⟩
  case round =>
    clear hM
    obtain ⟨k, hk, rfl, hM⟩ := hrel
    by_cases hlt : k < n
    · obtain ⟨ad, ⟨di, x⟩, rfl, hc, hg, ht⟩ := Rd.elems (l := l) (f := qcs) (hM.row (A := B) (xs := qvs l) (List.mem_cons_of_mem _ h2)) (fun x hx => qcs_len x) (by omega) hlt
      obtain ⟨ad2, rfl, _, _⟩ := (hM.row (A := A) (xs := pvs l) (List.mem_cons_of_mem _ h1)).2 (by omega)
      have hdi : di.length = 32 := H32.out _ (List.mem_of_getElem? hg)
      have HPI : Hid (∀ j v, (bvs di)[j]? = some v → (pvs l)[k * 33 + j]? = some v) := pvs_id H32.out hg
      have HPS : Hid ((pvs l)[k * 33 + 32]? = some (.int .i64 x)) := pvs_sz H32.out hg
      have HI := Lib.hid hdi
      have HO := Lib.hid (fun (L : List SProp) (w : World) (hM : Star L w) => obytes_star di hdi w hM)
      have hn0 : 0 < n := by omega
      clear ht hg hdi
      replace hM := hM.flat (A := some ad2) (n := n) (size := 33) (xs := pvs l) (by (repeat (first | assumption | (with_reducible exact List.mem_cons_self) | apply List.mem_cons_of_mem)); first | done | fail) (by omega)
      go_wp2_with (first | ((with_reducible refine at_load' ?_); refine BigFrame.wpList_want (by rfl) fun K hK => ws_load_at rfl rfl [.string ⟨di.toArray⟩, .int .i64 x] hc (n := 2) rfl (by decide +kernel) (hK _ _ ?_); clear hK K) | (first | ((with_reducible refine at_alloc' ?_); (have hM0 := hM; clear hM; refine BigFrame.wpList_want (by rfl) fun K hK => ws_alloc hM0 (t := 69) rfl (qtC [] 0) info_qt2 (fun g6 w hM => hK _ _ ?_); clear hM0 hK K)) | fail) | (first | ((with_reducible refine at_store' ?_); (have hM0 := hM; clear hM; refine BigFrame.wpList_want (by rfl) fun K hK => ws_store hM0 rfl rfl rfl (by (repeat (first | (with_reducible exact Take.head) | apply Take.tail)); first | done | fail) (n := 2) (by rfl) (by rfl) (by kernel_rfl) (by simp [Value.oneCell']) (fun w hM => hK _ _ ?_); clear hM0 hK K)) | fail))
      (refine region_RS ([cellsE g6 69 (qtC di x), cellsE g2 52 (ndC lv (some ad2) n c), rowE 1 (some ad2) (n * 33) (pvs l)]) [] (by kernel_rfl) hM ?_; clear hM; change RS _ _ _ _ _ _ 21 (Array.replicate 21 false) _ _; refine RS_take (i := 0) rfl (by decide +kernel) (fun _ _ _ h => h) (by first | (intro x hx; (repeat (first | exact hx | apply List.mem_cons_of_mem)); done) | ((repeat (refine List.forall_mem_cons.2 ⟨(by (repeat (first | assumption | (with_reducible exact List.mem_cons_self) | apply List.mem_cons_of_mem)); first | done | fail), ?_⟩)); intro x hx; first | (cases hx; done) | ((repeat (first | exact hx | apply List.mem_cons_of_mem)); done))) (stab_pure (by rfl) (fun w => (by go_simp; try with_reducible rfl))) ?_; simp only [Act.put, List.setIfInBounds_toArray, List.set_cons_zero, List.set_cons_succ]; refine RS_take (i := 1) rfl (by decide +kernel) (fun _ _ _ h => h) (by first | (intro x hx; (repeat (first | exact hx | apply List.mem_cons_of_mem)); done) | ((repeat (refine List.forall_mem_cons.2 ⟨(by (repeat (first | assumption | (with_reducible exact List.mem_cons_self) | apply List.mem_cons_of_mem)); first | done | fail), ?_⟩)); intro x hx; first | (cases hx; done) | ((repeat (first | exact hx | apply List.mem_cons_of_mem)); done))) (stab_read (by rfl) (fun L w hL hM => (ex_load1 (v := .slice (some ad2) n c) hM rfl rfl (hL _ (by (repeat (first | assumption | (with_reducible exact List.mem_cons_self) | apply List.mem_cons_of_mem)); first | done | fail)) rfl (by decide +kernel)))) ?_; simp only [Act.put, List.setIfInBounds_toArray, List.set_cons_zero, List.set_cons_succ]; refine RS_take (i := 2) rfl (by decide +kernel) (fun _ _ _ h => h) (by first | (intro x hx; (repeat (first | exact hx | apply List.mem_cons_of_mem)); done) | ((repeat (refine List.forall_mem_cons.2 ⟨(by (repeat (first | assumption | (with_reducible exact List.mem_cons_self) | apply List.mem_cons_of_mem)); first | done | fail), ?_⟩)); intro x hx; first | (cases hx; done) | ((repeat (first | exact hx | apply List.mem_cons_of_mem)); done))) (stab_pure (by rfl) (fun w => (by go_simp; try with_reducible rfl))) ?_; simp only [Act.put, List.setIfInBounds_toArray, List.set_cons_zero, List.set_cons_succ]; refine RS_take (i := 3) rfl (by decide +kernel) (fun _ _ _ h => h) (by first | (intro x hx; (repeat (first | exact hx | apply List.mem_cons_of_mem)); done) | ((repeat (refine List.forall_mem_cons.2 ⟨(by (repeat (first | assumption | (with_reducible exact List.mem_cons_self) | apply List.mem_cons_of_mem)); first | done | fail), ?_⟩)); intro x hx; first | (cases hx; done) | ((repeat (first | exact hx | apply List.mem_cons_of_mem)); done))) (stab_pure (by rfl) (fun w => (by go_simp; try with_reducible rfl))) ?_; simp only [Act.put, List.setIfInBounds_toArray, List.set_cons_zero, List.set_cons_succ]; refine RS_take (i := 4) rfl (by decide +kernel) (fun _ _ _ h => h) (by first | (intro x hx; (repeat (first | exact hx | apply List.mem_cons_of_mem)); done) | ((repeat (refine List.forall_mem_cons.2 ⟨(by (repeat (first | assumption | (with_reducible exact List.mem_cons_self) | apply List.mem_cons_of_mem)); first | done | fail), ?_⟩)); intro x hx; first | (cases hx; done) | ((repeat (first | exact hx | apply List.mem_cons_of_mem)); done))) (stab_pure (by rfl) (fun w => (by go_simp; try with_reducible rfl))) ?_; simp only [Act.put, List.setIfInBounds_toArray, List.set_cons_zero, List.set_cons_succ]; refine RS_take (i := 5) rfl (by decide +kernel) (fun _ _ _ h => h) (by first | (intro x hx; (repeat (first | exact hx | apply List.mem_cons_of_mem)); done) | ((repeat (refine List.forall_mem_cons.2 ⟨(by (repeat (first | assumption | (with_reducible exact List.mem_cons_self) | apply List.mem_cons_of_mem)); first | done | fail), ?_⟩)); intro x hx; first | (cases hx; done) | ((repeat (first | exact hx | apply List.mem_cons_of_mem)); done))) (stab_read (by rfl) (fun L w hL hM => (ex_load_at rfl rfl (bvs di) ((hM.row (hL _ (by (repeat (first | assumption | (with_reducible exact List.mem_cons_self) | apply List.mem_cons_of_mem)); first | done | fail))).part (o := k * 33) (by omega) HPI.out) (n := 32) (by rw [bvs_len]; exact HI.out) (by decide +kernel)))) ?_; simp only [Act.put, List.setIfInBounds_toArray, List.set_cons_zero, List.set_cons_succ]; refine RS_take (i := 6) rfl (by decide +kernel) (fun _ _ _ h => h) (by first | (intro x hx; (repeat (first | exact hx | apply List.mem_cons_of_mem)); done) | ((repeat (refine List.forall_mem_cons.2 ⟨(by (repeat (first | assumption | (with_reducible exact List.mem_cons_self) | apply List.mem_cons_of_mem)); first | done | fail), ?_⟩)); intro x hx; first | (cases hx; done) | ((repeat (first | exact hx | apply List.mem_cons_of_mem)); done))) (stab_call (by rfl) (fun w => (by go_simp; try with_reducible rfl)) (fun L w hL hM => (HO.out _ w hM))) ?_; simp only [Act.put, List.setIfInBounds_toArray, List.set_cons_zero, List.set_cons_succ]; refine RS_take (i := 7) rfl (by decide +kernel) (fun _ _ _ h => h) (by first | (intro x hx; (repeat (first | exact hx | apply List.mem_cons_of_mem)); done) | ((repeat (refine List.forall_mem_cons.2 ⟨(by (repeat (first | assumption | (with_reducible exact List.mem_cons_self) | apply List.mem_cons_of_mem)); first | done | fail), ?_⟩)); intro x hx; first | (cases hx; done) | ((repeat (first | exact hx | apply List.mem_cons_of_mem)); done))) (stab_pure (by rfl) (fun w => (by go_simp; try with_reducible rfl))) ?_; simp only [Act.put, List.setIfInBounds_toArray, List.set_cons_zero, List.set_cons_succ]; refine RS_take (i := 8) rfl (by decide +kernel) (fun _ _ _ h => h) (by first | (intro x hx; (repeat (first | exact hx | apply List.mem_cons_of_mem)); done) | ((repeat (refine List.forall_mem_cons.2 ⟨(by (repeat (first | assumption | (with_reducible exact List.mem_cons_self) | apply List.mem_cons_of_mem)); first | done | fail), ?_⟩)); intro x hx; first | (cases hx; done) | ((repeat (first | exact hx | apply List.mem_cons_of_mem)); done))) (stab_read (by rfl) (fun L w hL hM => (ex_load1 (v := .string ⟨di.toArray⟩) hM rfl rfl (hL _ (by (repeat (first | assumption | (with_reducible exact List.mem_cons_self) | apply List.mem_cons_of_mem)); first | done | fail)) rfl (by decide +kernel)))) ?_; simp only [Act.put, List.setIfInBounds_toArray, List.set_cons_zero, List.set_cons_succ]; refine RS_take (i := 9) rfl (by decide +kernel) (fun _ _ _ h => h) (by first | (intro x hx; (repeat (first | exact hx | apply List.mem_cons_of_mem)); done) | ((repeat (refine List.forall_mem_cons.2 ⟨(by (repeat (first | assumption | (with_reducible exact List.mem_cons_self) | apply List.mem_cons_of_mem)); first | done | fail), ?_⟩)); intro x hx; first | (cases hx; done) | ((repeat (first | exact hx | apply List.mem_cons_of_mem)); done))) (stab_read (by rfl) (fun L w hL hM => (ex_nes rfl rfl rfl (b := false) (by simp)))) ?_; simp only [Act.put, List.setIfInBounds_toArray, List.set_cons_zero, List.set_cons_succ]; refine RS_take (i := 10) rfl (by decide +kernel) (fun _ _ _ h => h) (by first | (intro x hx; (repeat (first | exact hx | apply List.mem_cons_of_mem)); done) | ((repeat (refine List.forall_mem_cons.2 ⟨(by (repeat (first | assumption | (with_reducible exact List.mem_cons_self) | apply List.mem_cons_of_mem)); first | done | fail), ?_⟩)); intro x hx; first | (cases hx; done) | ((repeat (first | exact hx | apply List.mem_cons_of_mem)); done))) (stab_pure (by rfl) (fun w => (by go_simp; try with_reducible rfl))) ?_; simp only [Act.put, List.setIfInBounds_toArray, List.set_cons_zero, List.set_cons_succ]; refine RS_take (i := 11) rfl (by decide +kernel) (fun _ _ _ h => h) (by first | (intro x hx; (repeat (first | exact hx | apply List.mem_cons_of_mem)); done) | ((repeat (refine List.forall_mem_cons.2 ⟨(by (repeat (first | assumption | (with_reducible exact List.mem_cons_self) | apply List.mem_cons_of_mem)); first | done | fail), ?_⟩)); intro x hx; first | (cases hx; done) | ((repeat (first | exact hx | apply List.mem_cons_of_mem)); done))) (stab_pure (by rfl) (fun w => (by go_simp; try with_reducible rfl))) ?_; simp only [Act.put, List.setIfInBounds_toArray, List.set_cons_zero, List.set_cons_succ]; refine RS_take (i := 12) rfl (by decide +kernel) (fun _ _ _ h => h) (by first | (intro x hx; (repeat (first | exact hx | apply List.mem_cons_of_mem)); done) | ((repeat (refine List.forall_mem_cons.2 ⟨(by (repeat (first | assumption | (with_reducible exact List.mem_cons_self) | apply List.mem_cons_of_mem)); first | done | fail), ?_⟩)); intro x hx; first | (cases hx; done) | ((repeat (first | exact hx | apply List.mem_cons_of_mem)); done))) (stab_read (by rfl) (fun L w hL hM => (ex_load1 (v := .slice (some ad2) n c) hM rfl rfl (hL _ (by (repeat (first | assumption | (with_reducible exact List.mem_cons_self) | apply List.mem_cons_of_mem)); first | done | fail)) rfl (by decide +kernel)))) ?_; simp only [Act.put, List.setIfInBounds_toArray, List.set_cons_zero, List.set_cons_succ]; refine RS_take (i := 13) rfl (by decide +kernel) (fun _ _ _ h => h) (by first | (intro x hx; (repeat (first | exact hx | apply List.mem_cons_of_mem)); done) | ((repeat (refine List.forall_mem_cons.2 ⟨(by (repeat (first | assumption | (with_reducible exact List.mem_cons_self) | apply List.mem_cons_of_mem)); first | done | fail), ?_⟩)); intro x hx; first | (cases hx; done) | ((repeat (first | exact hx | apply List.mem_cons_of_mem)); done))) (stab_pure (by rfl) (fun w => (by go_simp; try with_reducible rfl))) ?_; simp only [Act.put, List.setIfInBounds_toArray, List.set_cons_zero, List.set_cons_succ]; refine RS_take (i := 14) rfl (by decide +kernel) (fun _ _ _ h => h) (by first | (intro x hx; (repeat (first | exact hx | apply List.mem_cons_of_mem)); done) | ((repeat (refine List.forall_mem_cons.2 ⟨(by (repeat (first | assumption | (with_reducible exact List.mem_cons_self) | apply List.mem_cons_of_mem)); first | done | fail), ?_⟩)); intro x hx; first | (cases hx; done) | ((repeat (first | exact hx | apply List.mem_cons_of_mem)); done))) (stab_pure (by rfl) (fun w => (by go_simp; try with_reducible rfl))) ?_; simp only [Act.put, List.setIfInBounds_toArray, List.set_cons_zero, List.set_cons_succ]; refine RS_take (i := 15) rfl (by decide +kernel) (fun _ _ _ h => h) (by first | (intro x hx; (repeat (first | exact hx | apply List.mem_cons_of_mem)); done) | ((repeat (refine List.forall_mem_cons.2 ⟨(by (repeat (first | assumption | (with_reducible exact List.mem_cons_self) | apply List.mem_cons_of_mem)); first | done | fail), ?_⟩)); intro x hx; first | (cases hx; done) | ((repeat (first | exact hx | apply List.mem_cons_of_mem)); done))) (stab_pure (by rfl) (fun w => (by go_simp; try with_reducible rfl))) ?_; simp only [Act.put, List.setIfInBounds_toArray, List.set_cons_zero, List.set_cons_succ]; refine RS_take (i := 16) rfl (by decide +kernel) (fun _ _ _ h => h) (by first | (intro x hx; (repeat (first | exact hx | apply List.mem_cons_of_mem)); done) | ((repeat (refine List.forall_mem_cons.2 ⟨(by (repeat (first | assumption | (with_reducible exact List.mem_cons_self) | apply List.mem_cons_of_mem)); first | done | fail), ?_⟩)); intro x hx; first | (cases hx; done) | ((repeat (first | exact hx | apply List.mem_cons_of_mem)); done))) (stab_read (by rfl) (fun L w hL hM => (ex_rowload (k := k * 33 + 32) rfl (by exact congrArg (fun z => Value.pointer (some z)) (add_mk ad2 (k * 33) 32 (by omega))) (hM.row (hL _ (by (repeat (first | assumption | (with_reducible exact List.mem_cons_self) | apply List.mem_cons_of_mem)); first | done | fail))) HPS.out (by decide +kernel)))) ?_; simp only [Act.put, List.setIfInBounds_toArray, List.set_cons_zero, List.set_cons_succ]; refine RS_take (i := 17) rfl (by decide +kernel) (fun _ _ _ h => h) (by first | (intro x hx; (repeat (first | exact hx | apply List.mem_cons_of_mem)); done) | ((repeat (refine List.forall_mem_cons.2 ⟨(by (repeat (first | assumption | (with_reducible exact List.mem_cons_self) | apply List.mem_cons_of_mem)); first | done | fail), ?_⟩)); intro x hx; first | (cases hx; done) | ((repeat (first | exact hx | apply List.mem_cons_of_mem)); done))) (stab_pure (by rfl) (fun w => (by go_simp; try with_reducible rfl))) ?_; simp only [Act.put, List.setIfInBounds_toArray, List.set_cons_zero, List.set_cons_succ]; refine RS_take (i := 18) rfl (by decide +kernel) (fun _ _ _ h => h) (by first | (intro x hx; (repeat (first | exact hx | apply List.mem_cons_of_mem)); done) | ((repeat (refine List.forall_mem_cons.2 ⟨(by (repeat (first | assumption | (with_reducible exact List.mem_cons_self) | apply List.mem_cons_of_mem)); first | done | fail), ?_⟩)); intro x hx; first | (cases hx; done) | ((repeat (first | exact hx | apply List.mem_cons_of_mem)); done))) (stab_read (by rfl) (fun L w hL hM => (ex_load1 (v := .int .i64 x) hM rfl rfl (hL _ (by (repeat (first | assumption | (with_reducible exact List.mem_cons_self) | apply List.mem_cons_of_mem)); first | done | fail)) rfl (by decide +kernel)))) ?_; simp only [Act.put, List.setIfInBounds_toArray, List.set_cons_zero, List.set_cons_succ]; refine RS_take (i := 19) rfl (by decide +kernel) (fun _ _ _ h => h) (by first | (intro x hx; (repeat (first | exact hx | apply List.mem_cons_of_mem)); done) | ((repeat (refine List.forall_mem_cons.2 ⟨(by (repeat (first | assumption | (with_reducible exact List.mem_cons_self) | apply List.mem_cons_of_mem)); first | done | fail), ?_⟩)); intro x hx; first | (cases hx; done) | ((repeat (first | exact hx | apply List.mem_cons_of_mem)); done))) (stab_pure (by rfl) (fun w => (by go_simp; try with_reducible rfl))) ?_; simp only [Act.put, List.setIfInBounds_toArray, List.set_cons_zero, List.set_cons_succ]; refine RS_take (i := 20) rfl (by decide +kernel) (fun _ _ _ h => h) (by first | (intro x hx; (repeat (first | exact hx | apply List.mem_cons_of_mem)); done) | ((repeat (refine List.forall_mem_cons.2 ⟨(by (repeat (first | assumption | (with_reducible exact List.mem_cons_self) | apply List.mem_cons_of_mem)); first | done | fail), ?_⟩)); intro x hx; first | (cases hx; done) | ((repeat (first | exact hx | apply List.mem_cons_of_mem)); done))) (stab_pure (by rfl) (fun w => (by go_simp; try with_reducible rfl))) ?_; simp only [Act.put, List.setIfInBounds_toArray, List.set_cons_zero, List.set_cons_succ]; refine RS_done (by decide +kernel) (.inl (by first | (intro x hx; (repeat (first | exact hx | apply List.mem_cons_of_mem)); done) | ((repeat (refine List.forall_mem_cons.2 ⟨(by (repeat (first | assumption | (with_reducible exact List.mem_cons_self) | apply List.mem_cons_of_mem)); first | done | fail), ?_⟩)); intro x hx; first | (cases hx; done) | ((repeat (first | exact hx | apply List.mem_cons_of_mem)); done)))) (fun w hM => ?_))
      go_wp2_with fail
      go_roundw
      case rel => exact ⟨k + 1, by omega, by go_num, hM.sel (by repeat (first | (with_reducible exact Sel.refl) | (with_reducible exact Take.head) | (with_reducible apply Take.tail) | (with_reducible apply Sel.cons) | (with_reducible apply Sel.drop)))⟩
      case measure => simp [intOf]; omega
    · go_wp2
      go_ret
      exact ⟨rfl, hM.sel (by repeat (first | (with_reducible exact Sel.refl) | (with_reducible exact Take.head) | (with_reducible apply Take.tail) | (with_reducible apply Sel.cons) | (with_reducible apply Sel.drop)))⟩
end Go.Proofs.Ytlhedbjjlomniaa
set_option linter.unusedSimpArgs false
set_option linter.unusedVariables false
namespace Go.Proofs.Ytlhedbjjlomniaa
open Go.RowKit
attribute [local go_sem] extract_mid extract_drop bget bsize wrap64_u8 i64_u8 u64_u8 bappend
theorem ovs_id {l : List Ob} (h32 : ob32 l) {k : Nat} {d : Ob} (hd : l[k]? = some d) : ∀ j v, (bvs d.2.1)[j]? = some v → (ovs l)[k * 34 + 1 + j]? = some v := by
  intro j v hj
  have h1 := ocs_id d j v hj
  rw [List.getElem?_toArray] at h1
  have := flat_get ocs 34 l (fun x hx => ocs_len (h32 x hx)) k d hd (1 + j) v h1
  rwa [← Nat.add_assoc] at this
theorem ovs_tx {l : List Ob} (h32 : ob32 l) {k : Nat} {d : Ob} (hd : l[k]? = some d) : (ovs l)[k * 34 + 33]? = some (.string ⟨d.2.2.toArray⟩) :=
  flat_get ocs 34 l (fun x hx => ocs_len (h32 x hx)) k d hd 33 _ (by have := ocs_33 (h32 d (List.mem_of_getElem? hd)); simpa using this)
theorem build_ab : ∃ (id1 tx id2 : List UInt8), onm 1 [97, 98] = id1 ∧ id1.length = 32 ∧ id2.length = 32 ∧ tx.length ≤ 1000 ∧ parseN tx = ((1, [(id1, 2)]), 0) ∧ buildB [[97, 98]] = ((id2, 2), [(1, id1, [97, 98]), (2, id2, tx)], 0) := by
  have h32 : (onm 1 [97, 98]).length = 32 := onm_len _ _
  refine ⟨_, textN (1, [(onm 1 [97, 98], 2)]), onm 2 (textN (1, [(onm 1 [97, 98], 2)])), rfl, h32, onm_len _ _, ?_, ?_, ?_⟩
  · have := textN_len (1, [(onm 1 [97, 98], 2)]) (by intro p hp; simp at hp; rw [hp]; exact h32) (by simp)
    omega
  · exact parseN_text (checkN_good (by omega) (by simp) (by intro p hp; simp at hp; rw [hp]; have := (mostN_le 1).1; simp only; omega) (by simp [sumP])) (by intro p hp; simp at hp; rw [hp]; exact h32)
  · rw [build_few [[97, 98]] (by rfl) (by simp) (by simp)]
    rfl
set_option maxRecDepth 100000 in
set_option maxHeartbeats 8000000 in
theorem awake09 {F : List SProp} (w : World) (hM : Star F w) : Calls Try.prog 30 #[] w fun r w' => r = .returned (.bool true) ∧ Star F w' := by
  obtain ⟨id1, tx, id2, hid, l1, l2, ltx, hp, hb⟩ := build_ab
  have HB : Hid (∀ (L : List SProp) (g : Nat) (w : World), Star L w → rowE 1 (some ⟨g, 0, none⟩) 1 (svs [[97, 98]]) ∈ L → Calls Try.prog 34 #[.slice (some ⟨g, 0, none⟩) 1 1] w fun r w' => ∃ ad cu, r = .returned (.tuple #[.agg (pcs (id2, 2)).toArray, .slice (some ad) 2 cu, .int .i64 0]) ∧ Star (rowE 34 (some ad) 2 (ovs [(1, id1, [97, 98]), (2, id2, tx)]) :: L) w') := fun L g w hM hx => by
    refine (build_star [[97, 98]] _ 1 1 (by omega) (by simp) w hM hx).mono fun r w' h => ?_
    unfold PB at h
    rw [hb] at h
    obtain ⟨U, cu, h1, h2⟩ := h
    obtain ⟨ad, rfl, _, _⟩ := (h2.row List.mem_cons_self).2 (by simp)
    exact ⟨ad, cu, h1, h2⟩
  have HP : Hid (∀ (L : List SProp) (w : World), Star L w → Calls Try.prog 28 #[.string ⟨tx.toArray⟩] w fun r w' => ∃ ad c, r = .returned (.tuple #[.agg (ndC 1 (some ad) 1 c), .int .i64 0]) ∧ Star (rowE 33 (some ad) 1 (pvs [(id1, 2)]) :: L) w') := fun L w hM => by
    refine (nparse_star tx (by omega) w hM).mono fun r w' h => ?_
    unfold PN at h
    rw [hp] at h
    obtain ⟨U, cu, h1, h2⟩ := h
    obtain ⟨ad, rfl, _, _⟩ := (h2.row List.mem_cons_self).2 (by simp)
    exact ⟨ad, cu, h1, h2⟩
  have HO : Hid (∀ (L : List SProp) (g : Nat) (w : World), Star L w → rowE 1 (some ⟨g, 0, none⟩) 1 (svs [[97, 98]]) ∈ L → Calls Try.prog 37 #[.int .i64 1, .slice (some ⟨g, 0, none⟩) 1 1] w fun r w' => r = .returned (.agg (bvs id1).toArray) ∧ Star L w') := fun L g w hM hx2 => by
    have := oof_star 1 [[97, 98]] (some ⟨g, 0, none⟩) 1 1 (by simp) (by omega) w hM hx2
    rwa [cat_one, hid] at this
  have HD := Lib.hid (fun w => depth_any 9 (by omega) w)
  have h32o : ob32 [(1, id1, [97, 98]), (2, id2, tx)] := by intro o ho; simp at ho; rcases ho with rfl | rfl <;> assumption
  have h32p : ok32 [(id1, 2)] := by intro o ho; simp at ho; rw [ho]; exact l1
  have HTX : Hid ((ovs [(1, id1, [97, 98]), (2, id2, tx)])[67]? = some (.string ⟨tx.toArray⟩)) := ovs_tx (k := 1) h32o rfl
  have HOI : Hid (∀ j v, (bvs id2)[j]? = some v → (ovs [(1, id1, [97, 98]), (2, id2, tx)])[35 + j]? = some v) := ovs_id (k := 1) h32o rfl
  have HPI : Hid (∀ j v, (bvs id1)[j]? = some v → (pvs [(id1, 2)])[0 + j]? = some v) := pvs_id (k := 0) h32p rfl
  have HI1 := Lib.hid l1
  have HI2 := Lib.hid l2
  have HS : Hid ((pcs (id2, 2)).toArray.size = 33) := pcs_sz l2
  have HS0 : Hid ((pcs (z32, 0)).toArray.size = 33) := pcs_sz z32_32
  have HSZ : Hid ((pcs (id2, 2)).toArray[32]? = some (.int .i64 2)) := pcs_32 (p := (id2, 2)) l2
  clear hid l1 l2 ltx hp hb h32o h32p
  go_enter Try.func30, Try.ntmps30
  go_wp2_with (first | (first | ((with_reducible refine at_slice' ?_); (have hM0 := hM; clear hM; refine BigFrame.wpList_want (by rfl) fun K hK => ws_slice_row hM0 (n := 1) rfl 9 1 (.string ByteArray.empty) [sv [97, 98]] Try.underlying61 (by kernel_rfl) rfl (by simp [Value.cells, iv, sv, bv]) (by rfl) (by decide) (cs := svs [[97, 98]]) (by rfl) (fun g7 w hM => hK _ _ ?_); clear hM0 hK K)) | fail) | (go_at_call 34; have hM0 := hM; clear hM; (first | (with_reducible refine (HB.out _ g7 _ hM0 (by (repeat (first | assumption | (with_reducible exact List.mem_cons_self) | apply List.mem_cons_of_mem)); first | done | fail)).mono ?_) | fail); clear hM0; rintro _ w ⟨ad, cu, rfl, hM⟩) | (first | ((with_reducible refine at_alloc' ?_); (have hM0 := hM; clear hM; refine BigFrame.wpList_want (by rfl) fun K hK => ws_alloc hM0 (t := 64) rfl (pcs (z32, 0)).toArray info_pt (fun g1 w hM => hK _ _ ?_); clear hM0 hK K)) | fail) | (first | ((with_reducible refine at_store' ?_); (have hM0 := hM; clear hM; refine BigFrame.wpList_want (by rfl) fun K hK => ws_store hM0 rfl rfl rfl (by (repeat (first | (with_reducible exact Take.head) | apply Take.tail)); first | done | fail) (n := 33) (by exact HS.out) (by exact HS0.out) (by kernel_rfl) (by exact pcs_oneA _) (fun w hM => hK _ _ ?_); clear hM0 hK K)) | fail) | (first | ((with_reducible refine at_load' ?_); (refine BigFrame.wpList_want (by rfl) fun K hK => ws_load1 hM rfl rfl (by (repeat (first | assumption | (with_reducible exact List.mem_cons_self) | apply List.mem_cons_of_mem)); first | done | fail) (by exact HSZ.out) (by decide +kernel) (hK _ _ ?_); clear hK K)) | fail) | ((with_reducible refine at_load' ?_); refine BigFrame.wpList_want (by rfl) fun K hK => ws_rowload (k := 67) rfl (by exact congrArg (fun z => Value.pointer (some z)) (add_mk ad 34 33 (by omega))) ((hM.flat (A := some ad) (n := 2) (size := 34) (xs := ovs [(1, id1, [97, 98]), (2, id2, tx)]) (by (repeat (first | assumption | (with_reducible exact List.mem_cons_self) | apply List.mem_cons_of_mem)); first | done | fail) (by omega)).row List.mem_cons_self) HTX.out (by decide +kernel) (hK _ _ ?_); clear hK K) | (go_at_call 28; have hM0 := hM; clear hM; (first | (with_reducible refine (HP.out _ _ hM0).mono ?_) | fail); clear hM0; rintro _ w ⟨ad3, c3, rfl, hM⟩) | (first | ((with_reducible refine at_alloc' ?_); (have hM0 := hM; clear hM; refine BigFrame.wpList_want (by rfl) fun K hK => ws_alloc hM0 (t := 52) rfl (ndC 0 none 0 0) info_nd (fun g4 w hM => hK _ _ ?_); clear hM0 hK K)) | fail) | (first | ((with_reducible refine at_store' ?_); (have hM0 := hM; clear hM; refine BigFrame.wpList_want (by rfl) fun K hK => ws_store hM0 rfl rfl rfl (by (repeat (first | (with_reducible exact Take.head) | apply Take.tail)); first | done | fail) (n := 2) (by rfl) (by rfl) (by kernel_rfl) (by simp [Value.oneCell']) (fun w hM => hK _ _ ?_); clear hM0 hK K)) | fail))
  (refine region_RS ([cellsE g4 52 (ndC 1 (some ad3) 1 c3), cellsE g1 64 (pcs (id2, 2)).toArray, rowE 33 (some ad3) 1 (pvs [(id1, 2)]), rowE 34 (some ad) 2 (ovs [(1, id1, [97, 98]), (2, id2, tx)])]) [] (by kernel_rfl) hM ?_; clear hM; change RS _ _ _ _ _ _ 37 (Array.replicate 37 false) _ _; refine RS_take (i := 0) rfl (by decide +kernel) (fun _ _ _ h => h) (by first | (intro x hx; (repeat (first | exact hx | apply List.mem_cons_of_mem)); done) | ((repeat (refine List.forall_mem_cons.2 ⟨(by (repeat (first | assumption | (with_reducible exact List.mem_cons_self) | apply List.mem_cons_of_mem)); first | done | fail), ?_⟩)); intro x hx; first | (cases hx; done) | ((repeat (first | exact hx | apply List.mem_cons_of_mem)); done))) (stab_pure (by rfl) (fun w => (by go_simp; try with_reducible rfl))) ?_; simp only [Act.put, List.setIfInBounds_toArray, List.set_cons_zero, List.set_cons_succ]; refine RS_take (i := 1) rfl (by decide +kernel) (fun _ _ _ h => h) (by first | (intro x hx; (repeat (first | exact hx | apply List.mem_cons_of_mem)); done) | ((repeat (refine List.forall_mem_cons.2 ⟨(by (repeat (first | assumption | (with_reducible exact List.mem_cons_self) | apply List.mem_cons_of_mem)); first | done | fail), ?_⟩)); intro x hx; first | (cases hx; done) | ((repeat (first | exact hx | apply List.mem_cons_of_mem)); done))) (stab_pure (by rfl) (fun w => (by go_simp; try with_reducible rfl))) ?_; simp only [Act.put, List.setIfInBounds_toArray, List.set_cons_zero, List.set_cons_succ]; refine RS_take (i := 2) rfl (by decide +kernel) (fun _ _ _ h => h) (by first | (intro x hx; (repeat (first | exact hx | apply List.mem_cons_of_mem)); done) | ((repeat (refine List.forall_mem_cons.2 ⟨(by (repeat (first | assumption | (with_reducible exact List.mem_cons_self) | apply List.mem_cons_of_mem)); first | done | fail), ?_⟩)); intro x hx; first | (cases hx; done) | ((repeat (first | exact hx | apply List.mem_cons_of_mem)); done))) (stab_pure (by rfl) (fun w => (by go_simp; try with_reducible rfl))) ?_; simp only [Act.put, List.setIfInBounds_toArray, List.set_cons_zero, List.set_cons_succ]; refine RS_take (i := 3) rfl (by decide +kernel) (fun _ _ _ h => h) (by first | (intro x hx; (repeat (first | exact hx | apply List.mem_cons_of_mem)); done) | ((repeat (refine List.forall_mem_cons.2 ⟨(by (repeat (first | assumption | (with_reducible exact List.mem_cons_self) | apply List.mem_cons_of_mem)); first | done | fail), ?_⟩)); intro x hx; first | (cases hx; done) | ((repeat (first | exact hx | apply List.mem_cons_of_mem)); done))) (stab_pure (by rfl) (fun w => (by go_simp; try with_reducible rfl))) ?_; simp only [Act.put, List.setIfInBounds_toArray, List.set_cons_zero, List.set_cons_succ]; refine RS_take (i := 4) rfl (by decide +kernel) (fun _ _ _ h => h) (by first | (intro x hx; (repeat (first | exact hx | apply List.mem_cons_of_mem)); done) | ((repeat (refine List.forall_mem_cons.2 ⟨(by (repeat (first | assumption | (with_reducible exact List.mem_cons_self) | apply List.mem_cons_of_mem)); first | done | fail), ?_⟩)); intro x hx; first | (cases hx; done) | ((repeat (first | exact hx | apply List.mem_cons_of_mem)); done))) (stab_read (by rfl) (fun L w hL hM => (ex_load1 (v := .int .i64 1) hM rfl rfl (hL _ (by (repeat (first | assumption | (with_reducible exact List.mem_cons_self) | apply List.mem_cons_of_mem)); first | done | fail)) rfl (by decide +kernel)))) ?_; simp only [Act.put, List.setIfInBounds_toArray, List.set_cons_zero, List.set_cons_succ]; refine RS_take (i := 5) rfl (by decide +kernel) (fun _ _ _ h => h) (by first | (intro x hx; (repeat (first | exact hx | apply List.mem_cons_of_mem)); done) | ((repeat (refine List.forall_mem_cons.2 ⟨(by (repeat (first | assumption | (with_reducible exact List.mem_cons_self) | apply List.mem_cons_of_mem)); first | done | fail), ?_⟩)); intro x hx; first | (cases hx; done) | ((repeat (first | exact hx | apply List.mem_cons_of_mem)); done))) (stab_pure (by rfl) (fun w => (by go_simp; try with_reducible rfl))) ?_; simp only [Act.put, List.setIfInBounds_toArray, List.set_cons_zero, List.set_cons_succ]; refine RS_take (i := 6) rfl (by decide +kernel) (fun _ _ _ h => h) (by first | (intro x hx; (repeat (first | exact hx | apply List.mem_cons_of_mem)); done) | ((repeat (refine List.forall_mem_cons.2 ⟨(by (repeat (first | assumption | (with_reducible exact List.mem_cons_self) | apply List.mem_cons_of_mem)); first | done | fail), ?_⟩)); intro x hx; first | (cases hx; done) | ((repeat (first | exact hx | apply List.mem_cons_of_mem)); done))) (stab_pure (by rfl) (fun w => (by go_simp; try with_reducible rfl))) ?_; simp only [Act.put, List.setIfInBounds_toArray, List.set_cons_zero, List.set_cons_succ]; refine RS_take (i := 7) rfl (by decide +kernel) (fun _ _ _ h => h) (by first | (intro x hx; (repeat (first | exact hx | apply List.mem_cons_of_mem)); done) | ((repeat (refine List.forall_mem_cons.2 ⟨(by (repeat (first | assumption | (with_reducible exact List.mem_cons_self) | apply List.mem_cons_of_mem)); first | done | fail), ?_⟩)); intro x hx; first | (cases hx; done) | ((repeat (first | exact hx | apply List.mem_cons_of_mem)); done))) (stab_pure (by rfl) (fun w => (by go_simp; try with_reducible rfl))) ?_; simp only [Act.put, List.setIfInBounds_toArray, List.set_cons_zero, List.set_cons_succ]; refine RS_take (i := 8) rfl (by decide +kernel) (fun _ _ _ h => h) (by first | (intro x hx; (repeat (first | exact hx | apply List.mem_cons_of_mem)); done) | ((repeat (refine List.forall_mem_cons.2 ⟨(by (repeat (first | assumption | (with_reducible exact List.mem_cons_self) | apply List.mem_cons_of_mem)); first | done | fail), ?_⟩)); intro x hx; first | (cases hx; done) | ((repeat (first | exact hx | apply List.mem_cons_of_mem)); done))) (stab_pure (by rfl) (fun w => (by go_simp; try with_reducible rfl))) ?_; simp only [Act.put, List.setIfInBounds_toArray, List.set_cons_zero, List.set_cons_succ]; refine RS_take (i := 9) rfl (by decide +kernel) (fun _ _ _ h => h) (by first | (intro x hx; (repeat (first | exact hx | apply List.mem_cons_of_mem)); done) | ((repeat (refine List.forall_mem_cons.2 ⟨(by (repeat (first | assumption | (with_reducible exact List.mem_cons_self) | apply List.mem_cons_of_mem)); first | done | fail), ?_⟩)); intro x hx; first | (cases hx; done) | ((repeat (first | exact hx | apply List.mem_cons_of_mem)); done))) (stab_read (by rfl) (fun L w hL hM => (ex_load1 (v := .slice (some ad3) 1 c3) hM rfl rfl (hL _ (by (repeat (first | assumption | (with_reducible exact List.mem_cons_self) | apply List.mem_cons_of_mem)); first | done | fail)) rfl (by decide +kernel)))) ?_; simp only [Act.put, List.setIfInBounds_toArray, List.set_cons_zero, List.set_cons_succ]; refine RS_take (i := 10) rfl (by decide +kernel) (fun _ _ _ h => h) (by first | (intro x hx; (repeat (first | exact hx | apply List.mem_cons_of_mem)); done) | ((repeat (refine List.forall_mem_cons.2 ⟨(by (repeat (first | assumption | (with_reducible exact List.mem_cons_self) | apply List.mem_cons_of_mem)); first | done | fail), ?_⟩)); intro x hx; first | (cases hx; done) | ((repeat (first | exact hx | apply List.mem_cons_of_mem)); done))) (stab_pure (by rfl) (fun w => (by go_simp; try with_reducible rfl))) ?_; simp only [Act.put, List.setIfInBounds_toArray, List.set_cons_zero, List.set_cons_succ]; refine RS_take (i := 11) rfl (by decide +kernel) (fun _ _ _ h => h) (by first | (intro x hx; (repeat (first | exact hx | apply List.mem_cons_of_mem)); done) | ((repeat (refine List.forall_mem_cons.2 ⟨(by (repeat (first | assumption | (with_reducible exact List.mem_cons_self) | apply List.mem_cons_of_mem)); first | done | fail), ?_⟩)); intro x hx; first | (cases hx; done) | ((repeat (first | exact hx | apply List.mem_cons_of_mem)); done))) (stab_pure (by rfl) (fun w => (by go_simp; try with_reducible rfl))) ?_; simp only [Act.put, List.setIfInBounds_toArray, List.set_cons_zero, List.set_cons_succ]; refine RS_take (i := 12) rfl (by decide +kernel) (fun _ _ _ h => h) (by first | (intro x hx; (repeat (first | exact hx | apply List.mem_cons_of_mem)); done) | ((repeat (refine List.forall_mem_cons.2 ⟨(by (repeat (first | assumption | (with_reducible exact List.mem_cons_self) | apply List.mem_cons_of_mem)); first | done | fail), ?_⟩)); intro x hx; first | (cases hx; done) | ((repeat (first | exact hx | apply List.mem_cons_of_mem)); done))) (stab_pure (by rfl) (fun w => (by go_simp; try with_reducible rfl))) ?_; simp only [Act.put, List.setIfInBounds_toArray, List.set_cons_zero, List.set_cons_succ]; refine RS_take (i := 13) rfl (by decide +kernel) (fun _ _ _ h => h) (by first | (intro x hx; (repeat (first | exact hx | apply List.mem_cons_of_mem)); done) | ((repeat (refine List.forall_mem_cons.2 ⟨(by (repeat (first | assumption | (with_reducible exact List.mem_cons_self) | apply List.mem_cons_of_mem)); first | done | fail), ?_⟩)); intro x hx; first | (cases hx; done) | ((repeat (first | exact hx | apply List.mem_cons_of_mem)); done))) (stab_pure (by rfl) (fun w => (by go_simp; try with_reducible rfl))) ?_; simp only [Act.put, List.setIfInBounds_toArray, List.set_cons_zero, List.set_cons_succ]; refine RS_take (i := 14) rfl (by decide +kernel) (fun _ _ _ h => h) (by first | (intro x hx; (repeat (first | exact hx | apply List.mem_cons_of_mem)); done) | ((repeat (refine List.forall_mem_cons.2 ⟨(by (repeat (first | assumption | (with_reducible exact List.mem_cons_self) | apply List.mem_cons_of_mem)); first | done | fail), ?_⟩)); intro x hx; first | (cases hx; done) | ((repeat (first | exact hx | apply List.mem_cons_of_mem)); done))) (stab_pure (by rfl) (fun w => (by go_simp; try with_reducible rfl))) ?_; simp only [Act.put, List.setIfInBounds_toArray, List.set_cons_zero, List.set_cons_succ]; refine RS_take (i := 15) rfl (by decide +kernel) (fun _ _ _ h => h) (by first | (intro x hx; (repeat (first | exact hx | apply List.mem_cons_of_mem)); done) | ((repeat (refine List.forall_mem_cons.2 ⟨(by (repeat (first | assumption | (with_reducible exact List.mem_cons_self) | apply List.mem_cons_of_mem)); first | done | fail), ?_⟩)); intro x hx; first | (cases hx; done) | ((repeat (first | exact hx | apply List.mem_cons_of_mem)); done))) (stab_read (by rfl) (fun L w hL hM => (ex_load1 (v := .slice (some ad3) 1 c3) hM rfl rfl (hL _ (by (repeat (first | assumption | (with_reducible exact List.mem_cons_self) | apply List.mem_cons_of_mem)); first | done | fail)) rfl (by decide +kernel)))) ?_; simp only [Act.put, List.setIfInBounds_toArray, List.set_cons_zero, List.set_cons_succ]; refine RS_take (i := 16) rfl (by decide +kernel) (fun _ _ _ h => h) (by first | (intro x hx; (repeat (first | exact hx | apply List.mem_cons_of_mem)); done) | ((repeat (refine List.forall_mem_cons.2 ⟨(by (repeat (first | assumption | (with_reducible exact List.mem_cons_self) | apply List.mem_cons_of_mem)); first | done | fail), ?_⟩)); intro x hx; first | (cases hx; done) | ((repeat (first | exact hx | apply List.mem_cons_of_mem)); done))) (stab_pure (by rfl) (fun w => (by go_simp; try with_reducible rfl))) ?_; simp only [Act.put, List.setIfInBounds_toArray, List.set_cons_zero, List.set_cons_succ]; refine RS_take (i := 17) rfl (by decide +kernel) (fun _ _ _ h => h) (by first | (intro x hx; (repeat (first | exact hx | apply List.mem_cons_of_mem)); done) | ((repeat (refine List.forall_mem_cons.2 ⟨(by (repeat (first | assumption | (with_reducible exact List.mem_cons_self) | apply List.mem_cons_of_mem)); first | done | fail), ?_⟩)); intro x hx; first | (cases hx; done) | ((repeat (first | exact hx | apply List.mem_cons_of_mem)); done))) (stab_pure (by rfl) (fun w => (by go_simp; try with_reducible rfl))) ?_; simp only [Act.put, List.setIfInBounds_toArray, List.set_cons_zero, List.set_cons_succ]; refine RS_take (i := 18) rfl (by decide +kernel) (fun _ _ _ h => h) (by first | (intro x hx; (repeat (first | exact hx | apply List.mem_cons_of_mem)); done) | ((repeat (refine List.forall_mem_cons.2 ⟨(by (repeat (first | assumption | (with_reducible exact List.mem_cons_self) | apply List.mem_cons_of_mem)); first | done | fail), ?_⟩)); intro x hx; first | (cases hx; done) | ((repeat (first | exact hx | apply List.mem_cons_of_mem)); done))) (stab_read (by rfl) (fun L w hL hM => (ex_load_at rfl rfl (bvs id1) ((hM.row (hL (rowE 33 (some ad3) 1 (pvs [(id1, 2)])) (by (repeat (first | assumption | (with_reducible exact List.mem_cons_self) | apply List.mem_cons_of_mem)); first | done | fail))).part (o := 0) (by omega) HPI.out) (n := 32) (by rw [bvs_len]; exact HI1.out) (by decide +kernel)))) ?_; simp only [Act.put, List.setIfInBounds_toArray, List.set_cons_zero, List.set_cons_succ]; refine RS_one (i := 19) (by decide +kernel) rfl (by rfl) (.inl (by first | (intro x hx; (repeat (first | exact hx | apply List.mem_cons_of_mem)); done) | ((repeat (refine List.forall_mem_cons.2 ⟨(by (repeat (first | assumption | (with_reducible exact List.mem_cons_self) | apply List.mem_cons_of_mem)); first | done | fail), ?_⟩)); intro x hx; first | (cases hx; done) | ((repeat (first | exact hx | apply List.mem_cons_of_mem)); done)))) (fun w K hM0 hK => ?_); refine ws_slice_row hM0 (n := 1) rfl 9 1 (.string ByteArray.empty) [sv [97, 98]] Try.underlying61 (by kernel_rfl) rfl (by simp [Value.cells, iv, sv, bv]) (by rfl) (by decide) (cs := svs [[97, 98]]) (by rfl) (fun g51 w hM => hK _ _ _ hM ?_); clear hM hM0 hK K; simp only [Act.put, List.setIfInBounds_toArray, List.set_cons_zero, List.set_cons_succ]; refine RS_one (i := 20) (by decide +kernel) rfl (by rfl) (.inl (by first | (intro x hx; (repeat (first | exact hx | apply List.mem_cons_of_mem)); done) | ((repeat (refine List.forall_mem_cons.2 ⟨(by (repeat (first | assumption | (with_reducible exact List.mem_cons_self) | apply List.mem_cons_of_mem)); first | done | fail), ?_⟩)); intro x hx; first | (cases hx; done) | ((repeat (first | exact hx | apply List.mem_cons_of_mem)); done)))) (fun w K hM0 hK => ?_); refine ws_call (by go_simp; try with_reducible rfl) (HO.out _ g51 w hM0 (by (repeat (first | assumption | (with_reducible exact List.mem_cons_self) | apply List.mem_cons_of_mem)); first | done | fail)) (fun r w2 hR => ?_); obtain ⟨rfl, hM⟩ := hR; refine ⟨_, rfl, hK _ _ _ hM ?_⟩; clear hM hM0 hK K; simp only [Act.put, List.setIfInBounds_toArray, List.set_cons_zero, List.set_cons_succ]; refine RS_take (i := 21) rfl (by decide +kernel) (fun _ _ _ h => h) (by first | (intro x hx; (repeat (first | exact hx | apply List.mem_cons_of_mem)); done) | ((repeat (refine List.forall_mem_cons.2 ⟨(by (repeat (first | assumption | (with_reducible exact List.mem_cons_self) | apply List.mem_cons_of_mem)); first | done | fail), ?_⟩)); intro x hx; first | (cases hx; done) | ((repeat (first | exact hx | apply List.mem_cons_of_mem)); done))) (stab_read (by rfl) (fun L w hL hM => (ex_eql_arr rfl rfl rfl Try.underlying23 Try.underlying5 (by kernel_rfl) HI1.out HI1.out (by kernel_rfl) (b := true) (by simp)))) ?_; simp only [Act.put, List.setIfInBounds_toArray, List.set_cons_zero, List.set_cons_succ]; refine RS_take (i := 22) rfl (by decide +kernel) (fun _ _ _ h => h) (by first | (intro x hx; (repeat (first | exact hx | apply List.mem_cons_of_mem)); done) | ((repeat (refine List.forall_mem_cons.2 ⟨(by (repeat (first | assumption | (with_reducible exact List.mem_cons_self) | apply List.mem_cons_of_mem)); first | done | fail), ?_⟩)); intro x hx; first | (cases hx; done) | ((repeat (first | exact hx | apply List.mem_cons_of_mem)); done))) (stab_pure (by rfl) (fun w => (by go_simp; try with_reducible rfl))) ?_; simp only [Act.put, List.setIfInBounds_toArray, List.set_cons_zero, List.set_cons_succ]; refine RS_take (i := 23) rfl (by decide +kernel) (fun _ _ _ h => h) (by first | (intro x hx; (repeat (first | exact hx | apply List.mem_cons_of_mem)); done) | ((repeat (refine List.forall_mem_cons.2 ⟨(by (repeat (first | assumption | (with_reducible exact List.mem_cons_self) | apply List.mem_cons_of_mem)); first | done | fail), ?_⟩)); intro x hx; first | (cases hx; done) | ((repeat (first | exact hx | apply List.mem_cons_of_mem)); done))) (stab_pure (by rfl) (fun w => (by go_simp; try with_reducible rfl))) ?_; simp only [Act.put, List.setIfInBounds_toArray, List.set_cons_zero, List.set_cons_succ]; refine RS_take (i := 24) rfl (by decide +kernel) (fun _ _ _ h => h) (by first | (intro x hx; (repeat (first | exact hx | apply List.mem_cons_of_mem)); done) | ((repeat (refine List.forall_mem_cons.2 ⟨(by (repeat (first | assumption | (with_reducible exact List.mem_cons_self) | apply List.mem_cons_of_mem)); first | done | fail), ?_⟩)); intro x hx; first | (cases hx; done) | ((repeat (first | exact hx | apply List.mem_cons_of_mem)); done))) (stab_pure (by rfl) (fun w => (by go_simp; try with_reducible rfl))) ?_; simp only [Act.put, List.setIfInBounds_toArray, List.set_cons_zero, List.set_cons_succ]; refine RS_take (i := 25) rfl (by decide +kernel) (fun _ _ _ h => h) (by first | (intro x hx; (repeat (first | exact hx | apply List.mem_cons_of_mem)); done) | ((repeat (refine List.forall_mem_cons.2 ⟨(by (repeat (first | assumption | (with_reducible exact List.mem_cons_self) | apply List.mem_cons_of_mem)); first | done | fail), ?_⟩)); intro x hx; first | (cases hx; done) | ((repeat (first | exact hx | apply List.mem_cons_of_mem)); done))) (stab_pure (by rfl) (fun w => (by go_simp; try with_reducible rfl))) ?_; simp only [Act.put, List.setIfInBounds_toArray, List.set_cons_zero, List.set_cons_succ]; refine RS_take (i := 26) rfl (by decide +kernel) (fun _ _ _ h => h) (by first | (intro x hx; (repeat (first | exact hx | apply List.mem_cons_of_mem)); done) | ((repeat (refine List.forall_mem_cons.2 ⟨(by (repeat (first | assumption | (with_reducible exact List.mem_cons_self) | apply List.mem_cons_of_mem)); first | done | fail), ?_⟩)); intro x hx; first | (cases hx; done) | ((repeat (first | exact hx | apply List.mem_cons_of_mem)); done))) (stab_pure (by rfl) (fun w => (by go_simp; try with_reducible rfl))) ?_; simp only [Act.put, List.setIfInBounds_toArray, List.set_cons_zero, List.set_cons_succ]; refine RS_take (i := 27) rfl (by decide +kernel) (fun _ _ _ h => h) (by first | (intro x hx; (repeat (first | exact hx | apply List.mem_cons_of_mem)); done) | ((repeat (refine List.forall_mem_cons.2 ⟨(by (repeat (first | assumption | (with_reducible exact List.mem_cons_self) | apply List.mem_cons_of_mem)); first | done | fail), ?_⟩)); intro x hx; first | (cases hx; done) | ((repeat (first | exact hx | apply List.mem_cons_of_mem)); done))) (stab_read (by rfl) (fun L w hL hM => (ex_load_at rfl (by exact congrArg (fun z => Value.pointer (some z)) (add_mk ad 34 1 (by omega))) (bvs id2) ((hM.row (hL (rowE 34 (some ad) 2 (ovs [(1, id1, [97, 98]), (2, id2, tx)])) (by (repeat (first | assumption | (with_reducible exact List.mem_cons_self) | apply List.mem_cons_of_mem)); first | done | fail))).part (o := 35) (by omega) HOI.out) (n := 32) (by rw [bvs_len]; exact HI2.out) (by decide +kernel)))) ?_; simp only [Act.put, List.setIfInBounds_toArray, List.set_cons_zero, List.set_cons_succ]; refine RS_take (i := 28) rfl (by decide +kernel) (fun _ _ _ h => h) (by first | (intro x hx; (repeat (first | exact hx | apply List.mem_cons_of_mem)); done) | ((repeat (refine List.forall_mem_cons.2 ⟨(by (repeat (first | assumption | (with_reducible exact List.mem_cons_self) | apply List.mem_cons_of_mem)); first | done | fail), ?_⟩)); intro x hx; first | (cases hx; done) | ((repeat (first | exact hx | apply List.mem_cons_of_mem)); done))) (stab_pure (by rfl) (fun w => (by go_simp; try with_reducible rfl))) ?_; simp only [Act.put, List.setIfInBounds_toArray, List.set_cons_zero, List.set_cons_succ]; refine RS_take (i := 29) rfl (by decide +kernel) (fun _ _ _ h => h) (by first | (intro x hx; (repeat (first | exact hx | apply List.mem_cons_of_mem)); done) | ((repeat (refine List.forall_mem_cons.2 ⟨(by (repeat (first | assumption | (with_reducible exact List.mem_cons_self) | apply List.mem_cons_of_mem)); first | done | fail), ?_⟩)); intro x hx; first | (cases hx; done) | ((repeat (first | exact hx | apply List.mem_cons_of_mem)); done))) (stab_read (by rfl) (fun L w hL hM => (ex_load_mid hM rfl rfl (hL _ (by (repeat (first | assumption | (with_reducible exact List.mem_cons_self) | apply List.mem_cons_of_mem)); first | done | fail)) (bvs id2) (pcs_id (id2, 2)) (n := 32) (by rw [bvs_len]; exact HI2.out) (by decide +kernel)))) ?_; simp only [Act.put, List.setIfInBounds_toArray, List.set_cons_zero, List.set_cons_succ]; refine RS_take (i := 30) rfl (by decide +kernel) (fun _ _ _ h => h) (by first | (intro x hx; (repeat (first | exact hx | apply List.mem_cons_of_mem)); done) | ((repeat (refine List.forall_mem_cons.2 ⟨(by (repeat (first | assumption | (with_reducible exact List.mem_cons_self) | apply List.mem_cons_of_mem)); first | done | fail), ?_⟩)); intro x hx; first | (cases hx; done) | ((repeat (first | exact hx | apply List.mem_cons_of_mem)); done))) (stab_read (by rfl) (fun L w hL hM => (ex_eql_arr rfl rfl rfl Try.underlying23 Try.underlying5 (by kernel_rfl) HI2.out HI2.out (by kernel_rfl) (b := true) (by simp)))) ?_; simp only [Act.put, List.setIfInBounds_toArray, List.set_cons_zero, List.set_cons_succ]; refine RS_take (i := 31) rfl (by decide +kernel) (fun _ _ _ h => h) (by first | (intro x hx; (repeat (first | exact hx | apply List.mem_cons_of_mem)); done) | ((repeat (refine List.forall_mem_cons.2 ⟨(by (repeat (first | assumption | (with_reducible exact List.mem_cons_self) | apply List.mem_cons_of_mem)); first | done | fail), ?_⟩)); intro x hx; first | (cases hx; done) | ((repeat (first | exact hx | apply List.mem_cons_of_mem)); done))) (stab_pure (by rfl) (fun w => (by go_simp; try with_reducible rfl))) ?_; simp only [Act.put, List.setIfInBounds_toArray, List.set_cons_zero, List.set_cons_succ]; refine RS_take (i := 32) rfl (by decide +kernel) (fun _ _ _ h => h) (by first | (intro x hx; (repeat (first | exact hx | apply List.mem_cons_of_mem)); done) | ((repeat (refine List.forall_mem_cons.2 ⟨(by (repeat (first | assumption | (with_reducible exact List.mem_cons_self) | apply List.mem_cons_of_mem)); first | done | fail), ?_⟩)); intro x hx; first | (cases hx; done) | ((repeat (first | exact hx | apply List.mem_cons_of_mem)); done))) (stab_pure (by rfl) (fun w => (by go_simp; try with_reducible rfl))) ?_; simp only [Act.put, List.setIfInBounds_toArray, List.set_cons_zero, List.set_cons_succ]; refine RS_take (i := 33) rfl (by decide +kernel) (fun _ _ _ h => h) (by first | (intro x hx; (repeat (first | exact hx | apply List.mem_cons_of_mem)); done) | ((repeat (refine List.forall_mem_cons.2 ⟨(by (repeat (first | assumption | (with_reducible exact List.mem_cons_self) | apply List.mem_cons_of_mem)); first | done | fail), ?_⟩)); intro x hx; first | (cases hx; done) | ((repeat (first | exact hx | apply List.mem_cons_of_mem)); done))) (stab_call (by rfl) (fun w => (by go_simp; try with_reducible rfl)) (fun L w hL hM => (starq (HD.out w) hM))) ?_; simp only [Act.put, List.setIfInBounds_toArray, List.set_cons_zero, List.set_cons_succ]; refine RS_take (i := 34) rfl (by decide +kernel) (fun _ _ _ h => h) (by first | (intro x hx; (repeat (first | exact hx | apply List.mem_cons_of_mem)); done) | ((repeat (refine List.forall_mem_cons.2 ⟨(by (repeat (first | assumption | (with_reducible exact List.mem_cons_self) | apply List.mem_cons_of_mem)); first | done | fail), ?_⟩)); intro x hx; first | (cases hx; done) | ((repeat (first | exact hx | apply List.mem_cons_of_mem)); done))) (stab_pure (by rfl) (fun w => (by go_simp; try with_reducible rfl))) ?_; simp only [Act.put, List.setIfInBounds_toArray, List.set_cons_zero, List.set_cons_succ]; refine RS_take (i := 35) rfl (by decide +kernel) (fun _ _ _ h => h) (by first | (intro x hx; (repeat (first | exact hx | apply List.mem_cons_of_mem)); done) | ((repeat (refine List.forall_mem_cons.2 ⟨(by (repeat (first | assumption | (with_reducible exact List.mem_cons_self) | apply List.mem_cons_of_mem)); first | done | fail), ?_⟩)); intro x hx; first | (cases hx; done) | ((repeat (first | exact hx | apply List.mem_cons_of_mem)); done))) (stab_pure (by rfl) (fun w => (by go_simp; try with_reducible rfl))) ?_; simp only [Act.put, List.setIfInBounds_toArray, List.set_cons_zero, List.set_cons_succ]; refine RS_take (i := 36) rfl (by decide +kernel) (fun _ _ _ h => h) (by first | (intro x hx; (repeat (first | exact hx | apply List.mem_cons_of_mem)); done) | ((repeat (refine List.forall_mem_cons.2 ⟨(by (repeat (first | assumption | (with_reducible exact List.mem_cons_self) | apply List.mem_cons_of_mem)); first | done | fail), ?_⟩)); intro x hx; first | (cases hx; done) | ((repeat (first | exact hx | apply List.mem_cons_of_mem)); done))) (stab_pure (by rfl) (fun w => (by go_simp; try with_reducible rfl))) ?_; simp only [Act.put, List.setIfInBounds_toArray, List.set_cons_zero, List.set_cons_succ]; refine RS_done (by decide +kernel) (.inl (by first | (intro x hx; (repeat (first | exact hx | apply List.mem_cons_of_mem)); done) | ((repeat (refine List.forall_mem_cons.2 ⟨(by (repeat (first | assumption | (with_reducible exact List.mem_cons_self) | apply List.mem_cons_of_mem)); first | done | fail), ?_⟩)); intro x hx; first | (cases hx; done) | ((repeat (first | exact hx | apply List.mem_cons_of_mem)); done)))) (fun w hM => ?_))
  go_wp2_with fail
  go_ret
  exact ⟨rfl, hM.sel (by repeat (first | (with_reducible exact Sel.refl) | (with_reducible exact Take.head) | (with_reducible apply Take.tail) | (with_reducible apply Sel.cons) | (with_reducible apply Sel.drop)))⟩
end Go.Proofs.Ytlhedbjjlomniaa
