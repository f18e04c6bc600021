/- The walks of the reference's small functions of layer 1: key, word, Bytes. No condition but lengths. -/
import Derived.Test.YthjceppddmecdaaTurn
import Derived.Test.YthjceppddmecdaaTail
import Derived.Test.YthjceppddmecdaaHashP
import Derived.Test.YthjceppddmecdaaBaleE
set_option linter.unusedSimpArgs false
set_option linter.unusedVariables false
namespace Go.Proofs.Ythjceppddmecdaa
open Go.RowKit
attribute [local go_sem] extract_mid extract_drop bget bsize wrap64_u8 i64_u8 u64_u8 bappend
theorem wvs_app (l m : List UInt32) : wvs (l ++ m) = wvs l ++ wvs m := by simp [wvs]
theorem info_u32b : (Try.prog.info? 95).map (fun i => (i.zero, i.size, i.bytes)) = some (some (.int .u32 0), 1, 4) := by kernel_rfl
theorem info_u32z : (Try.prog.info? 95).map (fun i => (i.zero, i.size)) = some (some (.int .u32 0), 1) := by kernel_rfl
theorem wvs_cells (l : List UInt32) : ∀ v ∈ wvs l, v.cells.size = 1 := by
  intro v hv
  obtain ⟨x, _, rfl⟩ := List.mem_map.1 hv
  rfl
theorem wvs_flat (l : List UInt32) : (wvs l).flatMap (fun v => v.cells.toList) = wvs l := by
  induction l with
  | nil => rfl
  | cons x l ih => simp only [wvs, List.map_cons, List.flatMap_cons] at ih ⊢; rw [ih]; rfl
set_option maxRecDepth 100000 in
theorem key_star {F : List SProp} (i : Nat) (x : UInt32) (hx : K64[i]? = some x) (w : World) (hM : Star F w) :
    Calls Try.prog 80 #[.int .i64 i] w fun r w' => r = .returned (.int .u32 (w32 x)) ∧ Star F w' := by
  have hi : i < 64 := by have := (List.getElem?_eq_some_iff.1 hx).1; rwa [K64_len] at this
  have hv := wvs_get _ _ _ hx
  have HX := Lib.hid hx
  clear hx
  go_enter Try.func80, Try.ntmps80
  go_wp2_with (first | (have hM0 := hM; clear hM; refine wpList_plain rfl fun K hK => ws_slice_row hM0 (n := 64) rfl 95 1 (.int .u32 0) (wvs K64) Try.underlying106 info_u32z (by as_aux_lemma => kernel_rfl) (wvs_cells _) (by as_aux_lemma => kernel_rfl) (by decide) (wvs_flat _) (fun g w hM => hK _ _ ?_); clear hM0 hK K) | (first | (refine BigFrame.wpList_want (by rfl) fun K hK => ws_rowload0 rfl rfl (by first | (apply Star.row hM; (repeat (first | assumption | (with_reducible exact List.mem_cons_self) | apply List.mem_cons_of_mem)); done) | (apply Star.own hM; (repeat (first | assumption | (with_reducible exact List.mem_cons_self) | apply List.mem_cons_of_mem)); done) | (apply Star.arr hM; (focus ((repeat (first | assumption | (with_reducible exact List.mem_cons_self) | apply List.mem_cons_of_mem)); done)); assumption)) (by assumption) (by kernel_rfl) (hK _ _ ?_); clear hK K) | fail))
  go_ret
  exact ⟨rfl, hM.sel (by repeat (first | (with_reducible exact Sel.refl) | (with_reducible exact Take.head) | (with_reducible apply Take.tail) | (with_reducible apply Sel.cons) | (with_reducible apply Sel.drop)))⟩
theorem word_any (a b c d : UInt8) (l : List UInt8) (w : World) : Calls Try.prog 82 #[.string ⟨(a :: b :: c :: d :: l).toArray⟩] w fun r w' => r = .returned (.int .u32 (w32 (word4 a b c d))) ∧ ∃ n, w' = w.drewN n := by
  have e : (((a.toNat : Int) % 4294967296 * 16777216 + (b.toNat : Int) % 4294967296 * 65536 + (c.toNat : Int) % 4294967296 * 256) % 4294967296 + (d.toNat : Int) % 4294967296) % 4294967296 = w32 (word4 a b c d) := by
    have h1 := a.toNat_lt; have h2 := b.toNat_lt; have h3 := c.toNat_lt; have h4 := d.toNat_lt
    unfold w32 word4
    simp only [UInt32.toNat_ofNat']
    omega
  have HE := Lib.hid e
  clear e
  go_enter Try.func82, Try.ntmps82
  go_wp2
  go_quiet (fail)
  go_wp2
  go_ret
  exact ⟨by rw [HE.out]; rfl, _, rfl⟩
set_option maxRecDepth 100000 in
theorem wbytes_star {F : List SProp} (x : UInt32) (w : World) (hM : Star F w) : Calls Try.prog 61 #[.int .u32 (w32 x)] w fun r w' => r = .returned (.string ⟨(wbytes x).toArray⟩) ∧ Star F w' := by
  have hx := w32_lt x
  obtain ⟨d1, e1⟩ : ∃ d, d = UInt8.ofNat (x.toNat / 16777216) := ⟨_, rfl⟩
  obtain ⟨d2, e2⟩ : ∃ d, d = UInt8.ofNat (x.toNat / 65536) := ⟨_, rfl⟩
  obtain ⟨d3, e3⟩ : ∃ d, d = UInt8.ofNat (x.toNat / 256) := ⟨_, rfl⟩
  obtain ⟨d4, e4⟩ : ∃ d, d = UInt8.ofNat x.toNat := ⟨_, rfl⟩
  have HW : Hid (wbytes x = [d1, d2, d3, d4]) := by show _ = _; rw [wbytes, e1, e2, e3, e4]
  have h1 : w32 x / 16777216 = (d1.toNat : Int) := by have := x.toNat_lt; rw [e1]; unfold w32; simp; omega
  have h2 : w32 x / 65536 % 256 = (d2.toNat : Int) := by rw [e2]; unfold w32; simp
  have h3 : w32 x / 256 % 256 = (d3.toNat : Int) := by rw [e3]; unfold w32; simp
  have h4 : w32 x % 256 = (d4.toNat : Int) := by rw [e4]; unfold w32; simp
  clear e1 e2 e3 e4
  go_enter Try.func61, Try.ntmps61
  go_wp2_with (first | (first | (have hM0 := hM; clear hM; refine BigFrame.wpList_want (by rfl) fun K hK => ws_slice_row hM0 (n := 4) rfl 5 1 (.int .u8 0) [bv d1, bv d2, bv d3, bv d4] Try.underlying63 (by kernel_rfl) rfl (by simp [Value.cells, iv, sv, bv]) (by rfl) (by decide) (cs := bvs [d1, d2, d3, d4]) (by rfl) (fun g w hM => hK _ _ ?_); clear hM0 hK K) | fail) | (first | (refine BigFrame.wpList_want (by rfl) fun K hK => ws_string (l := [d1, d2, d3, d4]) rfl 5 Try.underlying63 Try.underlying9 Try.underlying5 rfl (by first | (apply Star.row hM; (repeat (first | assumption | (with_reducible exact List.mem_cons_self) | apply List.mem_cons_of_mem)); done) | (apply Star.own hM; (repeat (first | assumption | (with_reducible exact List.mem_cons_self) | apply List.mem_cons_of_mem)); done) | (apply Star.arr hM; (focus ((repeat (first | assumption | (with_reducible exact List.mem_cons_self) | apply List.mem_cons_of_mem)); done)); assumption)) (hK _ _ ?_); clear hK K) | fail))
  go_ret
  exact ⟨by rw [HW.out]; rfl, hM.sel (by repeat (first | (with_reducible exact Sel.refl) | (with_reducible exact Take.head) | (with_reducible apply Take.tail) | (with_reducible apply Sel.cons) | (with_reducible apply Sel.drop)))⟩
theorem ror7s {F : List SProp} (x : UInt32) (w : World) (hM : Star F w) : Calls Try.prog 79 #[.int .u32 (w32 x), .int .i64 7] w fun r w' => r = .returned (.int .u32 (w32 (rotr x 7))) ∧ Star F w' := (ror7 x w).mono fun _ _ ⟨h1, m, h2⟩ => ⟨h1, h2 ▸ hM.drewN m⟩
theorem ror18s {F : List SProp} (x : UInt32) (w : World) (hM : Star F w) : Calls Try.prog 79 #[.int .u32 (w32 x), .int .i64 18] w fun r w' => r = .returned (.int .u32 (w32 (rotr x 18))) ∧ Star F w' := (ror18 x w).mono fun _ _ ⟨h1, m, h2⟩ => ⟨h1, h2 ▸ hM.drewN m⟩
theorem ror17s {F : List SProp} (x : UInt32) (w : World) (hM : Star F w) : Calls Try.prog 79 #[.int .u32 (w32 x), .int .i64 17] w fun r w' => r = .returned (.int .u32 (w32 (rotr x 17))) ∧ Star F w' := (ror17 x w).mono fun _ _ ⟨h1, m, h2⟩ => ⟨h1, h2 ▸ hM.drewN m⟩
theorem ror19s {F : List SProp} (x : UInt32) (w : World) (hM : Star F w) : Calls Try.prog 79 #[.int .u32 (w32 x), .int .i64 19] w fun r w' => r = .returned (.int .u32 (w32 (rotr x 19))) ∧ Star F w' := (ror19 x w).mono fun _ _ ⟨h1, m, h2⟩ => ⟨h1, h2 ▸ hM.drewN m⟩
theorem ror6s {F : List SProp} (x : UInt32) (w : World) (hM : Star F w) : Calls Try.prog 79 #[.int .u32 (w32 x), .int .i64 6] w fun r w' => r = .returned (.int .u32 (w32 (rotr x 6))) ∧ Star F w' := (ror6 x w).mono fun _ _ ⟨h1, m, h2⟩ => ⟨h1, h2 ▸ hM.drewN m⟩
theorem ror11s {F : List SProp} (x : UInt32) (w : World) (hM : Star F w) : Calls Try.prog 79 #[.int .u32 (w32 x), .int .i64 11] w fun r w' => r = .returned (.int .u32 (w32 (rotr x 11))) ∧ Star F w' := (ror11 x w).mono fun _ _ ⟨h1, m, h2⟩ => ⟨h1, h2 ▸ hM.drewN m⟩
theorem ror25s {F : List SProp} (x : UInt32) (w : World) (hM : Star F w) : Calls Try.prog 79 #[.int .u32 (w32 x), .int .i64 25] w fun r w' => r = .returned (.int .u32 (w32 (rotr x 25))) ∧ Star F w' := (ror25 x w).mono fun _ _ ⟨h1, m, h2⟩ => ⟨h1, h2 ▸ hM.drewN m⟩
theorem ror2s {F : List SProp} (x : UInt32) (w : World) (hM : Star F w) : Calls Try.prog 79 #[.int .u32 (w32 x), .int .i64 2] w fun r w' => r = .returned (.int .u32 (w32 (rotr x 2))) ∧ Star F w' := (ror2 x w).mono fun _ _ ⟨h1, m, h2⟩ => ⟨h1, h2 ▸ hM.drewN m⟩
theorem ror13s {F : List SProp} (x : UInt32) (w : World) (hM : Star F w) : Calls Try.prog 79 #[.int .u32 (w32 x), .int .i64 13] w fun r w' => r = .returned (.int .u32 (w32 (rotr x 13))) ∧ Star F w' := (ror13 x w).mono fun _ _ ⟨h1, m, h2⟩ => ⟨h1, h2 ▸ hM.drewN m⟩
theorem ror22s {F : List SProp} (x : UInt32) (w : World) (hM : Star F w) : Calls Try.prog 79 #[.int .u32 (w32 x), .int .i64 22] w fun r w' => r = .returned (.int .u32 (w32 (rotr x 22))) ∧ Star F w' := (ror22 x w).mono fun _ _ ⟨h1, m, h2⟩ => ⟨h1, h2 ▸ hM.drewN m⟩
theorem Tail.some2 {w : World} {e : TypeId} {size : Nat} {A : Option Addr} {n c : Nat} {xs : List Value} (h : Tail w e size A n c xs) (hn : 0 < c) : ∃ g off, A = some ⟨g, off, none⟩ := by
  obtain ⟨_, _, _, ⟨_, h⟩ | ⟨g, off, _, h, _⟩⟩ := h
  · omega
  · exact ⟨g, off, h⟩
section
variable {P : Program} {w : World} {o : Oper} {a : Act} {Q : Exit → Act → World → Prop} {K : Act → World → Prop}
theorem ws_pure {v : Value} (hy : (execOp a.eval o).run P w = .ok (.value v) w) (h : K (a.put o.dst v) w) : Oper.wp P o a w K Q := by
  unfold Oper.wp
  rw [hy]
  exact h
theorem ws_rowloadT {ty : TypeId} {x : Operand} (ho : o.op = .load ty x) {g off k : Nat} (hx : a.eval x = .pointer (some ⟨g, off + k, none⟩)) {n : Nat} {xs : List Value} (hr : Rd w 1 (some ⟨g, off, none⟩) n xs) {v : Value} (hv : xs[k]? = some v)
    (hp : plainTy P ty = true) (h : K (a.put o.dst v) w) : Oper.wp P o a w K Q := ws_rowload ho (ad := ⟨g, off, none⟩) (k := k) (by rw [hx, add_lit]) hr hv hp h
theorem ex_rowloadT {ty : TypeId} {x : Operand} (ho : o.op = .load ty x) {g off k : Nat} (hx : a.eval x = .pointer (some ⟨g, off + k, none⟩)) {n : Nat} {xs : List Value} (hr : Rd w 1 (some ⟨g, off, none⟩) n xs) {v : Value} (hv : xs[k]? = some v)
    (hp : plainTy P ty = true) : (execOp a.eval o).run P w = .ok (.value v) w := ex_rowload ho (ad := ⟨g, off, none⟩) (k := k) (by rw [hx, add_lit]) hr hv hp
end
theorem drop4 (l : List UInt8) (k : Nat) (h : 4 * k + 4 ≤ l.length) : l.drop (4 * k) = l.getD (4 * k) 0 :: l.getD (4 * k + 1) 0 :: l.getD (4 * k + 2) 0 :: l.getD (4 * k + 3) 0 :: l.drop (4 * k + 4) := by
  have g : ∀ j, j < l.length → l.drop j = l.getD j 0 :: l.drop (j + 1) := fun j hj => by
    rw [List.drop_eq_getElem_cons hj, List.getD_eq_getElem?_getD, List.getElem?_eq_getElem hj]; rfl
  rw [g (4 * k) (by omega), g (4 * k + 1) (by omega), g (4 * k + 2) (by omega), g (4 * k + 3) (by omega)]
theorem wordAt_star {F : List SProp} (l : List UInt8) (k : Nat) (h : 4 * k + 4 ≤ l.length) (w : World) (hM : Star F w) :
    Calls Try.prog 82 #[.string ⟨(l.drop (4 * k)).toArray⟩] w fun r w' => r = .returned (.int .u32 (w32 (wordAt l k))) ∧ Star F w' := by
  rw [drop4 l k h]
  exact (word_any _ _ _ _ _ w).mono fun _ _ ⟨h1, m, h2⟩ => ⟨h1, h2 ▸ hM.drewN m⟩
end Go.Proofs.Ythjceppddmecdaa
