/- The walks of hash.New, hash.Write. No condition but that not too many bytes come. -/
import Derived.Test.YthjceppddmecdaaBlock
import Derived.Test.YthjceppddmecdaaTail
import Derived.Test.YthjceppddmecdaaHashP
import Derived.Test.YthjceppddmecdaaBaleE
import Derived.Deep.LoopGhost
set_option linter.unusedSimpArgs false
set_option linter.unusedVariables false
namespace Go.Proofs.Ythjceppddmecdaa
open Go.RowKit
attribute [local go_sem] extract_mid extract_drop bget bsize wrap64_u8 i64_u8 u64_u8 bappend
theorem block_star {L : List SProp} (s : W8) (x8 x9 : Value) (b : List UInt8) (ad : Addr) (c g : Nat) (hb : b.length = 64) (hc : 64 ≤ c) (hc2 : c ≤ 9223372036854775807) (w : World)
    (hM : Star (cellsE g 104 (wvs s.list ++ [x8, x9]).toArray :: L) w) (hR : Rd w 1 (some ad) 64 (bvs b)) (hne : ad.block ≠ g) :
    Calls Try.prog 70 #[.pointer (some ⟨g, 0, none⟩), .slice (some ad) 64 c] w fun r w' => r = .returned (.tuple #[]) ∧ Star (cellsE g 104 (wvs (mix s b).list ++ [x8, x9]).toArray :: L) w' :=
  (block_any s x8 x9 b ad c g hb hc hc2 w hM.head hR hne).mono fun _ _ ⟨h1, h2, h3⟩ => ⟨h1, hM.put (bs := [g]) rfl h3 (fun b hb => .inl (List.mem_singleton.1 hb)) h2 fun k hk => .inl hk⟩
abbrev stC (s : W8) (x y : Value) : Array Value := (wvs s.list ++ [x, y]).toArray
/-- A sum of the bytes l: its cells. -/
def shCells (l : List UInt8) (A : Option Addr) (n c : Nat) : Array Value := (wvs (hst l).list ++ [Value.slice A n c, Value.int .u64 (l.length : Int)]).toArray
set_option maxRecDepth 100000 in
theorem new_star {F : List SProp} (w : World) (hM : Star F w) :
    Calls Try.prog 57 #[] w fun r w' => ∃ g, r = .returned (.pointer (some ⟨g, 0, none⟩)) ∧ Star (tailE 5 1 none 0 0 (bvs (rest [])) :: cellsE g 104 (shCells [] none 0 0) :: F) w' := by
  go_enter Try.func57, Try.ntmps57
  go_wp2_with (first | (refine build_any rfl _ _ rfl _ (by kernel_rfl) ?_) | (first | (have hM0 := hM; clear hM; refine BigFrame.wpList_want (by rfl) fun K hK => ws_box hM0 rfl rfl rfl (fun g w hM => hK _ _ ?_); clear hM0 hK K) | fail))
  go_ret
  exact ⟨_, rfl, hM.niltail _ _⟩
theorem sh_at8 (s : W8) (x y : Value) : (wvs s.list ++ [x, y]).toArray[8]? = some x := rfl
theorem sh_at9 (s : W8) (x y : Value) : (wvs s.list ++ [x, y]).toArray[9]? = some y := rfl
theorem sh_set8 (s : W8) (x y z : Value) : (wvs s.list ++ [x, y]).toArray.setIfInBounds 8 z = (wvs s.list ++ [z, y]).toArray := rfl
theorem sh_set9 (s : W8) (x y z : Value) : (wvs s.list ++ [x, y]).toArray.setIfInBounds 9 z = (wvs s.list ++ [x, z]).toArray := rfl
theorem sh_size (s : W8) (x y : Value) : (wvs s.list ++ [x, y]).toArray.size = 10 := rfl
theorem Star.tail_ne {L : List SProp} {w : World} {e t : TypeId} {size n c g : Nat} {ad : Addr} {xs : List Value} {cs : Array Value} (h : Star L w) (h1 : tailE e size (some ad) n c xs ∈ L) (h2 : cellsE g t cs ∈ L) (hne : tailE e size (some ad) n c xs ≠ cellsE g t cs) : ad.block ≠ g := by
  rcases Star.pair_mem h.pair h1 h2 hne with h3 | h3
  · cases h3.1
  · exact fun hg => h3 ad.block ⟨ad, rfl, rfl⟩ hg
theorem Tail.some_ {w : World} {e : TypeId} {size : Nat} {A : Option Addr} {n c : Nat} {xs : List Value} (h : Tail w e size A n c xs) (hn : 0 < c) : ∃ g off, A = some ⟨g, off, none⟩ := by
  obtain ⟨_, _, _, ⟨_, h⟩ | ⟨g, off, _, h, _⟩⟩ := h
  · omega
  · exact ⟨g, off, h⟩
theorem Tail.ne_ {w : World} {e t : TypeId} {size : Nat} {g off n c : Nat} {xs : List Value} {g' : Nat} {cs : Array Value} (h : Tail w e size (some ⟨g, off, none⟩) n c xs) (h' : Blk w g' t cs) (hne : e ≠ t) : g ≠ g' := by
  obtain ⟨_, _, _, ⟨h, _⟩ | ⟨g2, off2, cur, h, hb, _⟩⟩ := h
  · cases h
  · injection h with h; injection h with h; subst h; exact hb.ne_ h' hne
theorem cat_take_snoc {l : List (List UInt8)} {k : Nat} {d : List UInt8} (h : l.take (k + 1) = l.take k ++ [d]) : cat (l.take (k + 1)) = cat (l.take k) ++ d := by rw [h, cat_snoc]
theorem bvs_take (l : List UInt8) (k : Nat) : (bvs l).take k = bvs (l.take k) := (List.map_take).symm
theorem bvs_drop (l : List UInt8) (k : Nat) : (bvs l).drop k = bvs (l.drop k) := (List.map_drop).symm
theorem Star.tail_first {L : List SProp} {w : World} {e : TypeId} {A : Option Addr} {n c k : Nat} {l : List UInt8} (h : Star L w) (hx : tailE e 1 A n c (bvs l) ∈ L) (hk : k ≤ n) : Rd w 1 A k (bvs (l.take k)) := by
  have := (h.tail_row hx).take_ hk
  rwa [bvs_take] at this
theorem info_u8b : (Try.prog.info? 5).map (fun i => (i.zero, i.size, i.bytes)) = some (some (.int .u8 0), 1, 1) := by kernel_rfl
set_option maxRecDepth 100000 in
set_option maxHeartbeats 2000000 in
theorem write_star {F : List SProp} (g : Nat) (all : List UInt8) (ps : List (List UInt8)) (As : Option Addr) (np cp : Nat) (hps : ∀ x ∈ ps, x.length ≤ 1000000000) (hnp : np ≤ 1000) (hall : all.length ≤ 1000000000000) (A : Option Addr) (n c : Nat) (w : World)
    (hM : Star (tailE 5 1 A n c (bvs (rest all)) :: cellsE g 104 (shCells all A n c) :: F) w) (hF : rowE 1 As np (svs ps) ∈ F) :
    Calls Try.prog 58 #[.pointer (some ⟨g, 0, none⟩), .slice As np cp] w fun r w' => ∃ A' n' c', r = .returned (.pointer (some ⟨g, 0, none⟩)) ∧ Star (tailE 5 1 A' n' c' (bvs (rest (all ++ cat ps))) :: cellsE g 104 (shCells (all ++ cat ps) A' n' c') :: F) w' := by
  have HL := Lib.hid (svs_row (hM.row (A := As) (n := np) (xs := svs ps) (by simp [hF])))
  have HP := Lib.hid hps
  go_enter Try.func58, Try.ntmps58
  go_wp2_with fail
  go_loopw [9] (fun i wr => ∃ (k : Nat) (A : Option Addr) (n c : Nat), k ≤ np ∧ i = .int .i64 k ∧ Star (tailE 5 1 A n c (bvs (rest (all ++ cat (ps.take k)))) :: cellsE g 104 (shCells (all ++ cat (ps.take k)) A n c) :: F) wr) (fun i _ => np - (intOf i).toNat)
  case atStart => exact ⟨0, A, n, c, by omega, rfl, by simpa [cat] using hM⟩
  case round =>
    clear hM
    obtain ⟨k, A, n, c, hk, rfl, hM⟩ := hrel
    by_cases hlt : k < np
    · obtain ⟨ad, d, rfl, hv, hg, ht⟩ := hM.elemS (A := As) (n := np) (l := ps) (by simp [hF]) hlt
      have hdl := HP.out d (List.mem_of_getElem? hg)
      have hct := cat_take_le 1000000000 ps HP.out k
      rw [HL.out] at hct
      have HT := Lib.hid (cat_take_snoc ht)
      obtain ⟨cur, hcur⟩ : ∃ x, x = all ++ cat (ps.take k) := ⟨_, rfl⟩
      have hcl : cur.length ≤ 2000000000000 := by rw [hcur, List.length_append]; omega
      rw [← hcur] at hM
      have HC := Lib.hid hcur
      have hrl := rest_len cur
      have hnl : n = (rest cur).length := by have := (hM.tail_row (by simp : tailE 5 1 A n c (bvs (rest cur)) ∈ _)).len; rw [bvs_len] at this; exact this.symm
      obtain rfl := hnl
      unfold shCells at hM
      obtain ⟨X, hX⟩ : ∃ x, x = rest cur ++ d := ⟨_, rfl⟩
      have hXl : X.length = (rest cur).length + d.length := by rw [hX, List.length_append]
      have hr64 : (rest cur).length < 64 := by rw [hrl]; omega
      have HX := Lib.hid hX
      have HXL := Lib.hid hXl
      clear ht hg hcur hX hXl hct hrl
      have hF2 : ∀ (y : SProp) (L : List SProp), y ∈ L → y ∈ L := fun _ _ h => h
      go_wp2_with (first | (first | (refine BigFrame.wpList_want (by rfl) fun K hK => ws_rowload rfl rfl (by first | (apply Star.row hM; (repeat (first | assumption | (with_reducible exact List.mem_cons_self) | apply List.mem_cons_of_mem)); done) | (apply Star.own hM; (repeat (first | assumption | (with_reducible exact List.mem_cons_self) | apply List.mem_cons_of_mem)); done) | (apply Star.arr hM; (focus ((repeat (first | assumption | (with_reducible exact List.mem_cons_self) | apply List.mem_cons_of_mem)); done)); assumption)) (by assumption) (by kernel_rfl) (hK _ _ ?_); clear hK K) | fail) | (first | (refine BigFrame.wpList_want (by rfl) fun K hK => ws_load1 hM rfl rfl (by (repeat (first | assumption | (with_reducible exact List.mem_cons_self) | apply List.mem_cons_of_mem)); first | done | fail) (by first | exact sh_at8 _ _ _ | exact sh_at9 _ _ _) (by kernel_rfl) (hK _ _ ?_); clear hK K) | fail) | (first | (have hM0 := hM; clear hM; refine BigFrame.wpList_want (by rfl) fun K hK => ws_store1 hM0 rfl rfl (by go_simp; rfl) (by first | rfl | assumption) (by (repeat (first | (with_reducible exact Take.head) | apply Take.tail)); first | done | fail) (by first | exact (by decide : 8 < 10) | exact (by decide : 9 < 10)) (by kernel_rfl) (by first | exact sh_set8 _ _ _ _ | exact sh_set9 _ _ _ _) (fun w hM => hK _ _ ?_); clear hM0 hK K) | fail) | (first | (have hM0 := hM; clear hM; refine BigFrame.wpList_want (by rfl) fun K hK => ws_app hM0 rfl rfl 5 ((.int .u8 0)) 1 1 Try.underlying63 (by kernel_rfl) (by rfl) (by (repeat (first | (with_reducible exact Take.head) | apply Take.tail)); first | done | fail) (src_str Try.underlying9 d) ((by omega)) (fun A1 c1 w hM => hK _ _ ?_); clear hM0 hK K; (try simp only [Nat.zero_add, Nat.add_zero, List.nil_append, List.append_nil, ← bvs_app] at hM)) | fail))
      replace hM : Star (tailE 5 1 A1 ((rest cur).length + d.length) c1 (bvs X) :: cellsE g 104 (stC (hst cur) (.slice A1 ((rest cur).length + d.length) c1) (.int .u64 ((cur.length : Int) + (d.length : Int)))) :: F) w := by rw [HX.out]; exact hM.sel (by repeat (first | (with_reducible exact Sel.refl) | (with_reducible exact Take.head) | (with_reducible apply Take.tail) | (with_reducible apply Sel.cons) | (with_reducible apply Sel.drop)))
      rw [← HXL.out] at hM
      go_frame
      go_loopg [] (X.length / 64) (fun gk wx => ∃ (j n : Nat) (A : Option Addr) (c : Nat), gk = X.length / 64 - j ∧ j ≤ X.length / 64 ∧ Hid (n = X.length - 64 * j) ∧ Star (tailE 5 1 A n c (bvs (X.drop (64 * j))) :: cellsE g 104 (stC (mixN (hst cur) j X) (.slice A n c) (.int .u64 ((cur.length : Int) + (d.length : Int)))) :: F) wx)
      case atStart => exact ⟨0, X.length, A1, c1, by omega, by omega, (by show _ = _; omega), by simpa [mixN] using hM⟩
      case round =>
        clear hM
        obtain ⟨j, n, A, c, hgk, hj, hn, hM⟩ := hrel
        by_cases hjl : j < X.length / 64
        · have hT : Tail wr 5 1 A n c (bvs (X.drop (64 * j))) := hM.head
          have hn64 : 64 ≤ n := by have := hn.out; omega
          have hnc : n ≤ c := hT.2.1
          have hcm : c ≤ 9223372036854775807 := by have := hT.2.2.1; unfold maxLen at this; exact this
          obtain ⟨gp, off, rfl⟩ := hT.some_ (by omega)
          have hne : gp ≠ g := hT.ne_ hM.tail.head (t := 104) (by decide)
          clear hT
          have h64 : 64 ≤ c := by omega
          have HB := Lib.hid (mixN_succ_last (hst cur) j X)
          have HBl : Hid (((X.drop (64 * j)).take 64).length = 64) := by show _ = _; have := hn.out; simp; omega
          have HD : Hid ((X.drop (64 * j)).drop 64 = X.drop (64 * (j + 1))) := by show _ = _; rw [List.drop_drop, Nat.mul_add]
          by_cases hck : c = 64
          · subst hck
            obtain rfl : n = 64 := by omega
            go_wp2_with (first | (first | (refine BigFrame.wpList_want (by rfl) fun K hK => ws_load1 hM rfl rfl (by (repeat (first | assumption | (with_reducible exact List.mem_cons_self) | apply List.mem_cons_of_mem)); first | done | fail) (by first | exact sh_at8 _ _ _ | exact sh_at9 _ _ _) (by kernel_rfl) (hK _ _ ?_); clear hK K) | fail) | (go_at_call 70; have hM0 := hM; clear hM; (first | (with_reducible refine (block_star (mixN (hst cur) j X) _ _ ((X.drop (64 * j)).take 64) ⟨gp, off, none⟩ 64 g HBl.out (by omega) (by omega) _ (hM0.take (x := cellsE g 104 _) (by (repeat (first | (with_reducible exact Take.head) | apply Take.tail)); first | done | fail)) (hM0.tail_first (by (repeat (first | assumption | (with_reducible exact List.mem_cons_self) | apply List.mem_cons_of_mem)); first | done | fail) (by omega)) hne).mono ?_) | fail); clear hM0; rintro _ w ⟨rfl, hM⟩) | (first | (have hM0 := hM; clear hM; refine BigFrame.wpList_want (by rfl) fun K hK => ws_store1 hM0 rfl rfl (by go_simp; rfl) (by first | rfl | assumption) (by (repeat (first | (with_reducible exact Take.head) | apply Take.tail)); first | done | fail) (by first | exact (by decide : 8 < 10) | exact (by decide : 9 < 10)) (by kernel_rfl) (by first | exact sh_set8 _ _ _ _ | exact sh_set9 _ _ _ _) (fun w hM => hK _ _ ?_); clear hM0 hK K) | fail))
            go_roundg (X.length / 64 - (j + 1))
            case measure => omega
            case rel =>
              have hM2 := (hM.take (x := tailE 5 1 (some ⟨gp, off, none⟩) 64 64 (bvs (X.drop (64 * j)))) (by (repeat (first | (with_reducible exact Take.head) | apply Take.tail)); first | done | fail)).tail_cut (k := 64) (by omega)
              simp only [Nat.mul_one, bvs_drop, if_true, Nat.sub_self] at hM2
              rw [HD.out] at hM2
              refine ⟨j + 1, 0, some ⟨gp, off, none⟩, 0, rfl, by omega, (by show _ = _; have := hn.out; omega), ?_⟩
              rw [HB.out]
              exact hM2
          · go_wp2_with (first | (first | (refine BigFrame.wpList_want (by rfl) fun K hK => ws_load1 hM rfl rfl (by (repeat (first | assumption | (with_reducible exact List.mem_cons_self) | apply List.mem_cons_of_mem)); first | done | fail) (by first | exact sh_at8 _ _ _ | exact sh_at9 _ _ _) (by kernel_rfl) (hK _ _ ?_); clear hK K) | fail) | (go_at_call 70; have hM0 := hM; clear hM; (first | (with_reducible refine (block_star (mixN (hst cur) j X) _ _ ((X.drop (64 * j)).take 64) ⟨gp, off, none⟩ c g HBl.out (by omega) (by omega) _ (hM0.take (x := cellsE g 104 _) (by (repeat (first | (with_reducible exact Take.head) | apply Take.tail)); first | done | fail)) (hM0.tail_first (by (repeat (first | assumption | (with_reducible exact List.mem_cons_self) | apply List.mem_cons_of_mem)); first | done | fail) (by omega)) hne).mono ?_) | fail); clear hM0; rintro _ w ⟨rfl, hM⟩) | (first | (have hM0 := hM; clear hM; refine BigFrame.wpList_want (by rfl) fun K hK => ws_store1 hM0 rfl rfl (by go_simp; rfl) (by first | rfl | assumption) (by (repeat (first | (with_reducible exact Take.head) | apply Take.tail)); first | done | fail) (by first | exact (by decide : 8 < 10) | exact (by decide : 9 < 10)) (by kernel_rfl) (by first | exact sh_set8 _ _ _ _ | exact sh_set9 _ _ _ _) (fun w hM => hK _ _ ?_); clear hM0 hK K) | fail))
            go_roundg (X.length / 64 - (j + 1))
            case measure => omega
            case rel =>
              have hM2 := (hM.take (x := tailE 5 1 (some ⟨gp, off, none⟩) n c (bvs (X.drop (64 * j)))) (by (repeat (first | (with_reducible exact Take.head) | apply Take.tail)); first | done | fail)).tail_cut (k := 64) hn64
              simp only [Nat.mul_one, bvs_drop, if_neg hck, Option.map_some, add_lit] at hM2
              rw [HD.out] at hM2
              refine ⟨j + 1, n - 64, some ⟨gp, off + 64, none⟩, c - 64, rfl, by omega, (by show _ = _; have := hn.out; omega), ?_⟩
              rw [HB.out]
              exact hM2
        · obtain rfl : j = X.length / 64 := by omega
          have hn64 : n < 64 := by have := hn.out; omega
          have e1 := hst_app cur d
          have e2 := rest_app cur d
          rw [← HX.out] at e1 e2
          have E1 := Lib.hid e1
          have E2 := Lib.hid e2
          clear e1 e2
          go_wp2_with (first | (first | (refine BigFrame.wpList_want (by rfl) fun K hK => ws_load1 hM rfl rfl (by (repeat (first | assumption | (with_reducible exact List.mem_cons_self) | apply List.mem_cons_of_mem)); first | done | fail) (by first | exact sh_at8 _ _ _ | exact sh_at9 _ _ _) (by kernel_rfl) (hK _ _ ?_); clear hK K) | fail))
          go_roundw
          case rel =>
            refine ⟨k + 1, A, n, c, by omega, by go_num, ?_⟩
            rw [HT.out, ← List.append_assoc, ← HC.out, E2.out]
            unfold shCells
            rw [E1.out, List.length_append, Int.natCast_add]
            exact hM
          case measure => simp [intOf]; omega
    · go_wp2
      go_ret
      obtain rfl : k = np := by omega
      rw [← HL.out, List.take_length] at hM
      exact ⟨_, _, _, rfl, hM⟩
end Go.Proofs.Ythjceppddmecdaa
