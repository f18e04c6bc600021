/- What the laws share, part 2 (LetP, At, ArrEq, Ref4, Ref4b, Idx, LetC, LetB, Sha, Word, Spread, Block, TextW, Oid, LetE, LetR). No condition but those that each theorem names. -/
import Derived.Test.YtlhedbjjlomniaaLt1
import Derived.Deep.LoopGhost
import Derived.Laws.BitsLemmas
import Derived.Laws.Externs
import Derived.Laws.ResultCell
import Derived.Laws.StructEq
import Derived.Lib.Builder
import Derived.Lib.Bytealg
import Derived.Lib.UnsafeStr
import Derived.StillTailTactics
import Derived.Test.YtlhedbjjlomniaaRows
set_option linter.unusedSimpArgs false
set_option linter.unusedVariables false
namespace Go.Proofs.Ytlhedbjjlomniaa
structure Ltr where
  k : Int
  f : Int
  t : Int
  q : Int
  id : List UInt8
  w : Int
  x : List UInt8
  ps : List Int
  hs : List Int
def hasName (k : Int) : Bool := decide (3 ≤ k ∧ k ≤ 10)
def hasWhat (k : Int) : Bool := decide (7 ≤ k ∧ k ≤ 9)
def is4 (k : Int) : Bool := decide (k = 4)
def is8 (k : Int) : Bool := decide (k = 8)
def addr (n : Int) : Bool := decide (0 ≤ n ∧ n < 64)
def zeroB (l : List UInt8) : Bool := l.all (· == 0)
def checkL (l : Ltr) : Int :=
  if l.k < 1 ∨ 10 < l.k then 2
  else if addr l.f = false ∨ addr l.t = false ∨ l.q < 0 ∨ 4294967296 < l.q then 10
  else if 8 < l.ps.length ∨ 8 < l.hs.length ∨ 512 < l.x.length then 5
  else if (hasName l.k = false ∧ zeroB l.id = false) ∨ (is4 l.k = false ∧ 0 < l.ps.length + l.hs.length) ∨ (is8 l.k = false ∧ l.x ≠ []) then 2
  else if (hasWhat l.k = true ∧ (l.w < 1 ∨ 3 < l.w)) ∨ (hasWhat l.k = false ∧ l.w ≠ 0) then 2
  else if (l.ps ++ l.hs).all addr = true then 0 else 10
/-- What a letter must be, one by one. -/
structure Okay (l : Ltr) : Prop where
  k1 : 1 ≤ l.k
  k2 : l.k ≤ 10
  f : addr l.f = true
  t : addr l.t = true
  q1 : 0 ≤ l.q
  q2 : l.q ≤ 4294967296
  ps : l.ps.length ≤ 8
  hs : l.hs.length ≤ 8
  x : l.x.length ≤ 512
  id : hasName l.k = false → zeroB l.id = true
  no4 : l.k ≠ 4 → l.ps = [] ∧ l.hs = []
  no8 : l.k ≠ 8 → l.x = []
  w1 : hasWhat l.k = true → 1 ≤ l.w ∧ l.w ≤ 3
  w0 : hasWhat l.k = false → l.w = 0
  psA : ∀ n ∈ l.ps, addr n = true
  hsA : ∀ n ∈ l.hs, addr n = true
theorem checkL_ok {l : Ltr} (h : checkL l = 0) : Okay l := by
  unfold checkL at h
  split at h
  · cases h
  rename_i h1
  split at h
  · cases h
  rename_i h2
  split at h
  · cases h
  rename_i h3
  split at h
  · cases h
  rename_i h4
  split at h
  · cases h
  rename_i h5
  split at h
  · rename_i h6
    simp only [not_or, not_and, Bool.not_eq_false, ne_eq, Decidable.not_not, Int.not_lt, Nat.not_lt] at h1 h2 h3 h4 h5
    rw [List.all_eq_true] at h6
    obtain ⟨h41, h42, h43⟩ := h4
    obtain ⟨h51, h52⟩ := h5
    refine ⟨h1.1, h1.2, h2.1, h2.2.1, h2.2.2.1, h2.2.2.2, h3.1, h3.2.1, h3.2.2, ?_, ?_, fun hk => h43 (by simpa [is8] using hk), ?_, ?_, fun n hn => h6 n (List.mem_append.2 (.inl hn)), fun n hn => h6 n (List.mem_append.2 (.inr hn))⟩
    · exact h41
    · intro hk
      have := h42 (by simpa [is4] using hk)
      exact ⟨List.eq_nil_of_length_eq_zero (by omega), List.eq_nil_of_length_eq_zero (by omega)⟩
    · intro hw
      have := h51 hw
      omega
    · exact h52
  · cases h
def encN (n : Int) : List UInt8 := encNum (max n 0).toNat
def encL (l : List Int) : List UInt8 := encN l.length ++ encNums l
def bytesL (l : Ltr) : List UInt8 :=
  [99, 118] ++ (encN l.k ++ (encN l.f ++ (encN l.t ++ (encN l.q ++ ((if hasName l.k = true then l.id else []) ++ ((if hasWhat l.k = true then encN l.w else []) ++ ((if l.k = 8 then encStr l.x else []) ++ ((if l.k = 4 then encL l.ps else []) ++ (if l.k = 4 then encL l.hs else [])))))))))
/-- Addresses: the list, what is left, the error. -/
def mAdr : Nat → List Int → Par (List Int)
  | 0, o => fun l e => (o, l, e)
  | n + 1, o => fun l e => if e = 0 then mAdr n (o ++ [(mInt l e 63).1]) (mInt l e 63).2.1 (mInt l e 63).2.2 else (o, l, e)
def mList : Par (List Int) := fun l e => mAdr (mInt l e 8).1.toNat [] (mInt l e 8).2.1 (mInt l e 8).2.2
def pInt_ (top : Int) : Par Int := fun l e => mInt l e top
def pBytes_ (n : Int) : Par (List UInt8) := fun l e => mBytes l e n
def pStr_ (top : Int) : Par (List UInt8) := fun l e => mStr l e top
def pLtr : Par Ltr :=
  (pInt_ 10).bind fun k => (pInt_ 63).bind fun f => (pInt_ 63).bind fun t => (pInt_ 4294967296).bind fun q =>
  (if hasName k = true then pBytes_ 32 else Par.ret []).bind fun id => (if hasWhat k = true then pInt_ 3 else Par.ret 0).bind fun wh =>
  (if k = 8 then pStr_ 512 else Par.ret []).bind fun x => (if k = 4 then mList else Par.ret []).bind fun ps => (if k = 4 then mList else Par.ret []).bind fun hs =>
  Par.ret ⟨k, f, t, q, id, wh, x, ps, hs⟩
def noL : Ltr := ⟨0, 0, 0, 0, [], 0, [], [], []⟩
/-- A letter of bytes, its name as it was taken; the error. -/
def parseL (s : List UInt8) : Ltr × Int :=
  if 1024 < s.length then (noL, 5)
  else if s.take 2 ≠ [99, 118] then (noL, 2)
  else
    let r := pLtr (s.drop 2) 0
    let c := (mClose r.2.1 r.2.2).2
    if c ≠ 0 then (noL, c) else if checkL r.1 ≠ 0 then (noL, checkL r.1) else (r.1, 0)
theorem Stay.ite {α : Type} {c : Prop} [Decidable c] {p q : Par α} (hp : Stay p) (hq : Stay q) : Stay (if c then p else q) := by split <;> assumption
theorem stay_adr : ∀ (n : Nat) (o : List Int), Stay (mAdr n o)
  | 0, _ => fun _ _ _ => rfl
  | n + 1, o => fun l e he => by simp only [mAdr, if_neg he]
theorem stay_bytes (n : Int) : Stay (pBytes_ n) := sBytes_ n
theorem stay_str (top : Int) : Stay (pStr_ top) := sStr_ top
theorem stay_int (top : Int) : Stay (pInt_ top) := sInt_ top
theorem stay_list : Stay mList := fun l e he => by
  unfold mList
  rw [mInt_err l 8 he]
  rfl
theorem addr_iff {n : Int} : addr n = true ↔ 0 ≤ n ∧ n < 64 := by simp [addr]
theorem encNums_cons (n : Int) (l : List Int) : encNums (n :: l) = encN n ++ encNums l := by simp [encNums, encN]
theorem codec_int (n top : Int) (h0 : 0 ≤ n) (h : n ≤ max top 0) (hn : n ≤ 9223372036854775807) : Codec (pInt_ top) (encN n) n := by
  have := pInt (max n 0).toNat top (by omega) (by omega)
  rw [show (((max n 0).toNat : Nat) : Int) = n by omega] at this
  exact this
theorem codec_adr : ∀ (ps o : List Int), (∀ n ∈ ps, addr n = true) → Codec (mAdr ps.length o) (encNums ps) (o ++ ps)
  | [], o, _ => by rw [List.append_nil]; exact Codec.ret o
  | a :: ps, o, h => by
    have ha := addr_iff.1 (h a List.mem_cons_self)
    have ih := codec_adr ps (o ++ [a]) fun n hn => h n (List.mem_cons_of_mem _ hn)
    have hb := (codec_int a 63 (by omega) (by omega) (by omega)).bind (f := fun x => mAdr ps.length (o ++ [x])) ih fun x => stay_adr _ _
    rw [encNums_cons, List.append_assoc, List.singleton_append] at *
    refine ⟨fun t => ?_, fun y hy hne => ?_⟩
    · have := hb.full t
      simp only [List.length_cons, mAdr, if_true]; exact this
    · have := hb.cut y hy hne
      simp only [List.length_cons, mAdr, if_true]; exact this
theorem codec_list (ps : List Int) (h8 : ps.length ≤ 8) (h : ∀ n ∈ ps, addr n = true) : Codec mList (encL ps) ps := by
  have h1 := (codec_int ps.length 8 (by omega) (by omega) (by omega)).bind (f := fun x => mAdr x.toNat []) (y := encNums ps) (u := ps) (by simpa using codec_adr ps [] h) fun x => stay_adr _ _
  exact h1
theorem codec_ite {α : Type} {c : Prop} [Decidable c] {p : Par α} {x : List UInt8} {v d : α} (hp : c → Codec p x v) (hd : ¬ c → v = d) : Codec (if c then p else Par.ret d) (if c then x else []) v := by
  split
  · rename_i h; exact hp h
  · rename_i h; rw [hd h]; exact Codec.ret d
/-- As it is taken: without a name its kind has none. -/
def rawL (l : Ltr) : Ltr := { l with id := if hasName l.k = true then l.id else [] }
def bodyL (l : Ltr) : List UInt8 := (bytesL l).drop 2
theorem body_codec {l : Ltr} (h : Okay l) (hid : l.id.length = 32) : Codec pLtr (bodyL l) (rawL l) := by
  have hf := addr_iff.1 h.f
  have ht := addr_iff.1 h.t
  have k1 := h.k1
  have k2 := h.k2
  have q1 := h.q1
  have q2 := h.q2
  have hx := h.x
  unfold pLtr bodyL bytesL
  simp only [List.cons_append, List.nil_append, List.drop_succ_cons, List.drop_zero]
  refine (codec_int l.k 10 (by omega) (by omega) (by omega)).bind ?_ ?_
  refine (codec_int l.f 63 (by omega) (by omega) (by omega)).bind ?_ ?_
  refine (codec_int l.t 63 (by omega) (by omega) (by omega)).bind ?_ ?_
  refine (codec_int l.q 4294967296 (by omega) (by omega) (by omega)).bind ?_ ?_
  refine (Codec.bind (v := if hasName l.k = true then l.id else []) ?_ ?_ ?_)
  · split
    · exact pBytes l.id 32 (by omega)
    · exact Codec.ret []
  refine (codec_ite (v := l.w) (fun hw => codec_int l.w 3 (by have := h.w1 hw; omega) (by have := h.w1 hw; omega) (by have := h.w1 hw; omega)) fun hw => h.w0 (by simpa using hw)).bind ?_ ?_
  refine (codec_ite (v := l.x) (fun _ => pStr l.x 512 (by omega) (by omega)) fun hk => h.no8 hk).bind ?_ ?_
  refine (codec_ite (v := l.ps) (fun _ => codec_list l.ps h.ps h.psA) fun hk => (h.no4 hk).1).bind ?_ ?_
  have hl := (codec_ite (c := l.k = 4) (v := l.hs) (fun _ => codec_list l.hs h.hs h.hsA) fun hk => (h.no4 hk).2).map (fun hs => (⟨l.k, l.f, l.t, l.q, if hasName l.k = true then l.id else [], l.w, l.x, l.ps, hs⟩ : Ltr))
  exact hl
  all_goals
    intro a
    first
      | exact Stay.ret _
      | (repeat' first | exact Stay.ret _ | exact stay_int _ | exact stay_list | exact stay_bytes _ | exact stay_str _ | refine Stay.bind ?_ fun _ => ?_ | refine Stay.ite ?_ ?_)
theorem encN_len (n : Int) : (encN n).length ≤ 9 := encNum_len _
theorem bytes_len {l : Ltr} (h : Okay l) (hid : l.id.length ≤ 32) : (bytesL l).length ≤ 700 := by
  have e1 := encN_len l.k
  have e2 := encN_len l.f
  have e3 := encN_len l.t
  have e4 := encN_len l.q
  have e5 := encN_len l.w
  have e6 := encStr_len l.x
  have e7 := encN_len l.ps.length
  have e8 := encN_len l.hs.length
  have e9 := encNums_len l.ps
  have e10 := encNums_len l.hs
  have hx := h.x
  have hp := h.ps
  have hh := h.hs
  by_cases k4 : l.k = 4
  · have k8 : l.k ≠ 8 := by omega
    simp only [bytesL, encL, List.length_append, List.length_cons, List.length_nil]
    rw [if_neg k8, if_pos k4, if_pos k4]
    split <;> split <;> simp only [List.length_append, List.length_nil] <;> omega
  · simp only [bytesL, encL, List.length_append, List.length_cons, List.length_nil]
    rw [if_neg k4, if_neg k4]
    split <;> split <;> split <;> simp only [List.length_append, List.length_nil] <;> omega
theorem bytes_split (l : Ltr) : bytesL l = [99, 118] ++ bodyL l := by simp [bodyL, bytesL]
theorem checkL_raw {l : Ltr} (h : checkL l = 0) : checkL (rawL l) = 0 := by
  have ho := checkL_ok h
  rw [← h]
  unfold checkL rawL
  simp only
  by_cases hn : hasName l.k = true
  · rw [if_pos hn]
  · have hn' : hasName l.k = false := by simpa using hn
    rw [if_neg hn, ho.id hn']
    simp [zeroB]
/-- WHAT WAS WRITTEN IS READ AGAIN. -/
theorem parse_bytes {l : Ltr} (h : checkL l = 0) (hid : l.id.length = 32) : parseL (bytesL l) = (rawL l, 0) := by
  have ho := checkL_ok h
  have hl := bytes_len ho (by omega)
  have hc := (body_codec ho hid).full []
  rw [List.append_nil] at hc
  unfold parseL
  rw [if_neg (by omega), bytes_split]
  simp only [List.cons_append, List.nil_append, List.take_succ_cons, List.take_zero, ne_eq, not_true_eq_false, if_false, List.drop_succ_cons, List.drop_zero]
  rw [hc]
  simp [mClose, checkL_raw h]
/-- A BEGINNING OF A LETTER IS NONE. -/
theorem parse_cut {l : Ltr} (h : checkL l = 0) (hid : l.id.length = 32) (n : Nat) (hn : n < (bytesL l).length) : (parseL ((bytesL l).take n)).2 = if n < 2 then 2 else 1 := by
  have ho := checkL_ok h
  have hl := bytes_len ho (by omega)
  unfold parseL
  rw [if_neg (by simp; omega)]
  by_cases h2 : n < 2
  · rw [if_pos, if_pos h2]
    rcases (by omega : n = 0 ∨ n = 1) with rfl | rfl
    · simp
    · rw [bytes_split]; simp
  · obtain ⟨m, rfl⟩ : ∃ m, n = m + 2 := ⟨n - 2, by omega⟩
    rw [bytes_split] at hn ⊢
    have hm : m < (bodyL l).length := by simp at hn; omega
    have hc := (body_codec ho hid).cut ((bodyL l).take m) (List.take_prefix _ _) (fun e => by
      have := congrArg List.length e
      rw [List.length_take] at this
      omega)
    rcases hq : pLtr ((bodyL l).take m) 0 with ⟨a, b, c⟩
    rw [hq] at hc
    simp only [Prod.mk.injEq] at hc
    obtain ⟨rfl, rfl⟩ := hc
    simp only [List.cons_append, List.nil_append, List.take_succ_cons, List.take_zero, ne_eq, not_true_eq_false, if_false, List.drop_succ_cons, List.drop_zero, hq]
    rw [if_neg h2]
    simp [mClose]
/-- NOTHING MAY FOLLOW. -/
theorem parse_more {l : Ltr} (h : checkL l = 0) (hid : l.id.length = 32) (c : UInt8) (t : List UInt8) (ht : t.length ≤ 300) : (parseL (bytesL l ++ c :: t)).2 = 2 := by
  have ho := checkL_ok h
  have hl := bytes_len ho (by omega)
  have hc := (body_codec ho hid).full (c :: t)
  unfold parseL
  rw [if_neg (by simp; omega), bytes_split]
  simp only [List.append_assoc, List.cons_append, List.nil_append, List.take_succ_cons, List.take_zero, ne_eq, not_true_eq_false, if_false, List.drop_succ_cons, List.drop_zero]
  rw [hc]
  simp [mClose, mFail]
theorem inv_adr : ∀ (n : Nat) (o l v t), mAdr n o l 0 = (v, t, 0) → ∃ u, v = o ++ u ∧ u.length = n ∧ encNums u ++ t = l
  | 0, o, l, v, t, h => by
    simp only [mAdr, Prod.mk.injEq] at h
    obtain ⟨rfl, rfl, _⟩ := h
    exact ⟨[], by simp, rfl, by simp [encNums]⟩
  | n + 1, o, l, v, t, h => by
    simp only [mAdr, if_true] at h
    obtain ⟨a, m, h1, h2⟩ := Par.bind_ok (p := pInt_ 63) (f := fun x => mAdr n (o ++ [x])) (fun x => stay_adr _ _) (l := l) (by exact h)
    obtain ⟨h3, h4, _⟩ := iInt 63 h1
    obtain ⟨u, rfl, rfl, h5⟩ := inv_adr n _ _ _ _ h2
    refine ⟨a :: u, by simp, rfl, ?_⟩
    rw [encNums_cons, List.append_assoc, h5, ← h3, encN, show (max a 0).toNat = a.toNat by omega]
theorem inv_list {l v t} (h : mList l 0 = (v, t, 0)) : encL v ++ t = l := by
  obtain ⟨a, m, h1, h2⟩ := Par.bind_ok (p := pInt_ 8) (f := fun x => mAdr x.toNat []) (fun x => stay_adr _ _) (l := l) (by exact h)
  obtain ⟨h3, h4, _⟩ := iInt 8 h1
  obtain ⟨u, rfl, h6, h5⟩ := inv_adr _ _ _ _ _ h2
  rw [encL, List.append_assoc, h5, ← h3, encN, h6, show (max ((a.toNat : Nat) : Int) 0).toNat = a.toNat by omega]
theorem inv_ite {α : Type} {c : Prop} [Decidable c] {p : Par α} {d : α} {f : α → List UInt8} (hp : c → Inv p f) {l v t} (h : (if c then p else Par.ret d) l 0 = (v, t, 0)) : (if c then f v else []) ++ t = l := by
  by_cases hc : c
  · rw [if_pos hc] at h ⊢
    exact hp hc l v t h
  · rw [if_neg hc] at h ⊢
    simp only [Par.ret, Prod.mk.injEq] at h
    simpa using h.2.1.symm
theorem inv_int (top : Int) : Inv (pInt_ top) encN := fun l v t h => by
  obtain ⟨h1, h2, _⟩ := iInt top h
  rw [encN, show (max v 0).toNat = v.toNat by omega]; exact h1
/-- THERE IS ONE SPELLING. -/
theorem parse_one {s : List UInt8} (h : (parseL s).2 = 0) : bytesL (parseL s).1 = s := by
  unfold parseL at h ⊢
  by_cases h1 : 1024 < s.length
  · rw [if_pos h1] at h; simp at h
  rw [if_neg h1] at h ⊢
  by_cases h2 : s.take 2 ≠ [99, 118]
  · rw [if_pos h2] at h; simp at h
  rw [if_neg h2] at h ⊢
  rcases hq : pLtr (s.drop 2) 0 with ⟨l, u, e⟩
  rw [hq] at h
  simp only at h ⊢
  by_cases h3 : (mClose u e).2 ≠ 0
  · rw [if_pos h3] at h; exact absurd h h3
  rw [if_neg h3] at h ⊢
  by_cases h4 : checkL l ≠ 0
  · rw [if_pos h4] at h; exact absurd h h4
  rw [if_neg h4]
  have hu : u = [] ∧ e = 0 := by
    have h5 : (mClose u e).2 = 0 := by simpa using h3
    unfold mClose mFail at h5
    by_cases hu : u = []
    · rw [if_pos hu] at h5; exact ⟨hu, h5⟩
    · rw [if_neg hu] at h5
      split at h5
      · simp at h5
      · rename_i he; exact absurd h5 he
  obtain ⟨rfl, rfl⟩ := hu
  have hs : s = [99, 118] ++ s.drop 2 := by
    have h5 : s.take 2 = [99, 118] := by simpa using h2
    rw [← h5, List.take_append_drop]
  unfold pLtr at hq
  obtain ⟨k, m1, a1, hq⟩ := Par.bind_ok (fun _ => by repeat' first | exact Stay.ret _ | exact stay_int _ | exact stay_list | exact stay_bytes _ | exact stay_str _ | refine Stay.bind ?_ fun _ => ?_ | refine Stay.ite ?_ ?_) hq
  obtain ⟨f, m2, a2, hq⟩ := Par.bind_ok (fun _ => by repeat' first | exact Stay.ret _ | exact stay_int _ | exact stay_list | exact stay_bytes _ | exact stay_str _ | refine Stay.bind ?_ fun _ => ?_ | refine Stay.ite ?_ ?_) hq
  obtain ⟨t, m3, a3, hq⟩ := Par.bind_ok (fun _ => by repeat' first | exact Stay.ret _ | exact stay_int _ | exact stay_list | exact stay_bytes _ | exact stay_str _ | refine Stay.bind ?_ fun _ => ?_ | refine Stay.ite ?_ ?_) hq
  obtain ⟨q, m4, a4, hq⟩ := Par.bind_ok (fun _ => by repeat' first | exact Stay.ret _ | exact stay_int _ | exact stay_list | exact stay_bytes _ | exact stay_str _ | refine Stay.bind ?_ fun _ => ?_ | refine Stay.ite ?_ ?_) hq
  obtain ⟨id, m5, a5, hq⟩ := Par.bind_ok (fun _ => by repeat' first | exact Stay.ret _ | exact stay_int _ | exact stay_list | exact stay_bytes _ | exact stay_str _ | refine Stay.bind ?_ fun _ => ?_ | refine Stay.ite ?_ ?_) hq
  obtain ⟨wh, m6, a6, hq⟩ := Par.bind_ok (fun _ => by repeat' first | exact Stay.ret _ | exact stay_int _ | exact stay_list | exact stay_bytes _ | exact stay_str _ | refine Stay.bind ?_ fun _ => ?_ | refine Stay.ite ?_ ?_) hq
  obtain ⟨x, m7, a7, hq⟩ := Par.bind_ok (fun _ => by repeat' first | exact Stay.ret _ | exact stay_int _ | exact stay_list | exact stay_bytes _ | exact stay_str _ | refine Stay.bind ?_ fun _ => ?_ | refine Stay.ite ?_ ?_) hq
  obtain ⟨ps, m8, a8, hq⟩ := Par.bind_ok (fun _ => by repeat' first | exact Stay.ret _ | exact stay_int _ | exact stay_list | exact stay_bytes _ | exact stay_str _ | refine Stay.bind ?_ fun _ => ?_ | refine Stay.ite ?_ ?_) hq
  obtain ⟨hs', m9, a9, hq⟩ := Par.bind_ok (fun _ => Stay.ret _) hq
  simp only [Par.ret, Prod.mk.injEq] at hq
  obtain ⟨rfl, rfl, _⟩ := hq
  have b1 := inv_int 10 _ _ _ a1
  have b2 := inv_int 63 _ _ _ a2
  have b3 := inv_int 63 _ _ _ a3
  have b4 := inv_int 4294967296 _ _ _ a4
  have b5 := inv_ite (p := pBytes_ 32) (f := fun x => x) (fun _ l v t h => (iBytes h).1) a5
  have b6 := inv_ite (f := encN) (fun _ => inv_int 3) a6
  have b7 := inv_ite (p := pStr_ 512) (f := encStr) (fun _ l v t h => (iStr h).1) a7
  have b8 := inv_ite (f := encL) (fun _ l v t h => inv_list h) a8
  have b9 := inv_ite (f := encL) (fun _ l v t h => inv_list h) a9
  rw [hs, ← b1, ← b2, ← b3, ← b4, ← b5, ← b6, ← b7, ← b8, ← b9]
  simp only [bytesL, List.append_nil]
/-- UNLIKE LETTERS HAVE UNLIKE BYTES. -/
theorem bytes_apart {a b : Ltr} (ha : checkL a = 0) (hb : checkL b = 0) (ia : a.id.length = 32) (ib : b.id.length = 32) (h : bytesL a = bytesL b) : a = b := by
  have h1 := parse_bytes ha ia
  rw [h, parse_bytes hb ib] at h1
  simp only [Prod.mk.injEq, and_true] at h1
  have oa := checkL_ok ha
  have ob := checkL_ok hb
  have zz : ∀ l : List UInt8, l.length = 32 → zeroB l = true → l = List.replicate 32 0 := fun l hl hz => by
    apply List.eq_replicate_iff.2
    refine ⟨hl, fun x hx => ?_⟩
    have := List.all_eq_true.1 hz x hx
    simpa using this
  cases a with
  | mk k f t q id w x ps hs =>
  cases b with
  | mk k' f' t' q' id' w' x' ps' hs' =>
  simp only [rawL, Ltr.mk.injEq] at h1 ⊢
  obtain ⟨rfl, rfl, rfl, rfl, h5, rfl, rfl, rfl, rfl⟩ := h1
  refine ⟨rfl, rfl, rfl, rfl, ?_, rfl, rfl, rfl, rfl⟩
  by_cases hn : hasName k' = true
  · rw [if_pos hn, if_pos hn] at h5; exact h5.symm
  · have hn' : hasName k' = false := by simpa using hn
    rw [zz id ia (oa.id hn'), zz id' ib (ob.id hn')]
end Go.Proofs.Ytlhedbjjlomniaa
set_option linter.unusedSimpArgs false
set_option linter.unusedVariables false
namespace Go.Proofs.Ytlhedbjjlomniaa
open Go.RowKit
section
variable {P : Program} {w : World} {ops : Array Oper} {rest : List Oper} {a : Act} {Q : Exit → Act → World → Prop} {d : Option Tmp} {tp : TypeId} {pos : String} {af : Array Edge} {g : Option (Nat × Bool)}
theorem at_load' {ty : TypeId} {x : Operand} (h : wpList P ops Q (⟨d, .load ty x, tp, pos, af, g⟩ :: rest) a w) : wpList P ops Q (⟨d, .load ty x, tp, pos, af, g⟩ :: rest) a w := h
theorem at_store' {ty : TypeId} {x y : Operand} (h : wpList P ops Q (⟨d, .store ty x y, tp, pos, af, g⟩ :: rest) a w) : wpList P ops Q (⟨d, .store ty x y, tp, pos, af, g⟩ :: rest) a w := h
theorem at_alloc' {ty : TypeId} (h : wpList P ops Q (⟨d, .alloc ty, tp, pos, af, g⟩ :: rest) a w) : wpList P ops Q (⟨d, .alloc ty, tp, pos, af, g⟩ :: rest) a w := h
theorem at_box' {ty : TypeId} {x : Operand} (h : wpList P ops Q (⟨d, .box ty x, tp, pos, af, g⟩ :: rest) a w) : wpList P ops Q (⟨d, .box ty x, tp, pos, af, g⟩ :: rest) a w := h
theorem at_slice' {ty : TypeId} {n : Nat} {xs : Array (Nat × Operand)} (h : wpList P ops Q (⟨d, .buildSlice ty n xs, tp, pos, af, g⟩ :: rest) a w) : wpList P ops Q (⟨d, .buildSlice ty n xs, tp, pos, af, g⟩ :: rest) a w := h
theorem at_build' {ty : TypeId} {xs : Array (Nat × Operand)} (h : wpList P ops Q (⟨d, .build ty xs, tp, pos, af, g⟩ :: rest) a w) : wpList P ops Q (⟨d, .build ty xs, tp, pos, af, g⟩ :: rest) a w := h
theorem at_bin' {op : BinOp} {t ty : TypeId} {x y : Operand} (h : wpList P ops Q (⟨d, .binOp op t x y ty, tp, pos, af, g⟩ :: rest) a w) : wpList P ops Q (⟨d, .binOp op t x y ty, tp, pos, af, g⟩ :: rest) a w := h
theorem at_call' {c : Call} (h : wpList P ops Q (⟨d, .call c, tp, pos, af, g⟩ :: rest) a w) : wpList P ops Q (⟨d, .call c, tp, pos, af, g⟩ :: rest) a w := h
end
section
variable {P : Program} {w : World} {o : Oper} {a : Act} {t ty : TypeId} {x y : Operand}
theorem ex_add (ho : o.op = .binOp .add t x y ty) {i j s : Int} (hx : a.eval x = .int .i64 i) (hy : a.eval y = .int .i64 j) (hs : IntKind.i64.wrap (i + j) = s) : (execOp a.eval o).run P w = .ok (.value (.int .i64 s)) w := by
  unfold execOp
  simp only [ho, hx, hy]
  simp [go_sem]
  exact hs
theorem ex_gt {k : IntKind} (ho : o.op = .binOp .gtr t x y ty) {i j : Int} (hx : a.eval x = .int k i) (hy : a.eval y = .int k j) {b : Bool} (hb : (decide (j < i)) = b) : (execOp a.eval o).run P w = .ok (.value (.bool b)) w := by
  subst hb
  unfold execOp
  simp only [ho, hx, hy]
  simp [go_sem]
theorem ex_lt {k : IntKind} (ho : o.op = .binOp .lss t x y ty) {i j : Int} (hx : a.eval x = .int k i) (hy : a.eval y = .int k j) {b : Bool} (hb : (decide (i < j)) = b) : (execOp a.eval o).run P w = .ok (.value (.bool b)) w := by
  subst hb
  unfold execOp
  simp only [ho, hx, hy]
  simp [go_sem]
theorem ex_ge {k : IntKind} (ho : o.op = .binOp .geq t x y ty) {i j : Int} (hx : a.eval x = .int k i) (hy : a.eval y = .int k j) {b : Bool} (hb : (decide (j ≤ i)) = b) : (execOp a.eval o).run P w = .ok (.value (.bool b)) w := by
  subst hb
  unfold execOp
  simp only [ho, hx, hy]
  simp [go_sem]
theorem ex_le {k : IntKind} (ho : o.op = .binOp .leq t x y ty) {i j : Int} (hx : a.eval x = .int k i) (hy : a.eval y = .int k j) {b : Bool} (hb : (decide (i ≤ j)) = b) : (execOp a.eval o).run P w = .ok (.value (.bool b)) w := by
  subst hb
  unfold execOp
  simp only [ho, hx, hy]
  simp [go_sem]
theorem ex_eq {k : IntKind} (ho : o.op = .binOp .eql t x y ty) {i j : Int} (hx : a.eval x = .int k i) (hy : a.eval y = .int k j) {b : Bool} (hb : (decide (i = j)) = b) : (execOp a.eval o).run P w = .ok (.value (.bool b)) w := by
  subst hb
  unfold execOp
  simp only [ho, hx, hy]
  simp [go_sem]
  rw [Bool.eq_iff_iff]; simp
theorem ex_ne {k : IntKind} (ho : o.op = .binOp .neq t x y ty) {i j : Int} (hx : a.eval x = .int k i) (hy : a.eval y = .int k j) {b : Bool} (hb : (!decide (i = j)) = b) : (execOp a.eval o).run P w = .ok (.value (.bool b)) w := by
  subst hb
  unfold execOp
  simp only [ho, hx, hy]
  simp [go_sem]
  rw [Bool.eq_iff_iff]; simp
theorem ex_eqs (ho : o.op = .binOp .eql t x y ty) {s u : List UInt8} (hx : a.eval x = .string ⟨s.toArray⟩) (hy : a.eval y = .string ⟨u.toArray⟩) {b : Bool} (hb : (decide (s = u)) = b) : (execOp a.eval o).run P w = .ok (.value (.bool b)) w := by
  subst hb
  unfold execOp
  simp only [ho, hx, hy]
  simp [go_sem]
  rw [Bool.eq_iff_iff]; simp
theorem ex_nes (ho : o.op = .binOp .neq t x y ty) {s u : List UInt8} (hx : a.eval x = .string ⟨s.toArray⟩) (hy : a.eval y = .string ⟨u.toArray⟩) {b : Bool} (hb : (!decide (s = u)) = b) : (execOp a.eval o).run P w = .ok (.value (.bool b)) w := by
  subst hb
  unfold execOp
  simp only [ho, hx, hy]
  simp [go_sem]
  rw [Bool.eq_iff_iff]; simp
end
/-- Results: a row in a cell, and a slot. -/
theorem results_row_tmp {P : Program} {fn : Func} {p u : Tmp} {ty : TypeId} (h : fn.results = #[.cell p ty, .tmp u]) (tmps : Array Value) (w : World) (g : Nat) (t : TypeId) (cs : Array Value) (n : Nat) (v : Value) (hp : tmps.getD p undef = .pointer (some ⟨g, 0, none⟩)) (hv : tmps.getD u undef = v) (hg : Blk w g t cs) (hn : cs.size = n) (hr : rowTy P ty n = true) :
    (results fn tmps).run P w = .ok (.tuple #[.agg cs, v]) w := by
  obtain ⟨⟨d, h1, h2⟩, h3⟩ := rowTy_und hr
  rw [results_cell_tmp h, hp, hv]
  simp [asAddr, run_loadVar_row w g t ty cs (0, 0) d hg h1 (by cases d <;> simp_all) (by rw [h3, hn])]
theorem results_row {P : Program} {fn : Func} {p : Tmp} {ty : TypeId} (h : fn.results = #[.cell p ty]) (tmps : Array Value) (w : World) (g : Nat) (t : TypeId) (cs : Array Value) (n : Nat) (hp : tmps.getD p undef = .pointer (some ⟨g, 0, none⟩)) (hg : Blk w g t cs) (hn : cs.size = n) (hr : rowTy P ty n = true) :
    (results fn tmps).run P w = .ok (.agg cs) w := by
  obtain ⟨⟨d, h1, h2⟩, h3⟩ := rowTy_und hr
  exact results_cell_row h tmps w g t cs (0, 0) d hp hg h1 (by cases d <;> simp_all) (by rw [h3, hn])
end Go.Proofs.Ytlhedbjjlomniaa
set_option linter.unusedSimpArgs false
set_option linter.unusedVariables false
namespace Go.Proofs.Ytlhedbjjlomniaa
open Go.RowKit
attribute [local go_sem] extract_mid extract_drop bget bsize wrap64_u8 i64_u8 u64_u8 bappend
/-- '==' on two arrays of bytes, any answer. -/
theorem run_bin_arr {P : Program} (w : World) (t e : TypeId) (n : Nat) (ht : P.underlying t = some (.array n e)) (he : P.underlying e = some (.int .u8)) (hi : (P.info? e).map (·.size) = some 1) (xs ys : List UInt8) (hx : xs.length = n) (hy : ys.length = n) :
    (binOp .eql t (.agg (bvs xs).toArray) (.agg (bvs ys).toArray)).run P w = .ok (.bool (decide (xs = ys))) w := by
  have h1 := run_eql_bytes w t e n ht he hi xs ys hx hy 9998
  simp only [binOp]
  simp [Op.equal, Op.maxDepth, h1]
theorem run_bin_arrN {P : Program} (w : World) (t e : TypeId) (n : Nat) (ht : P.underlying t = some (.array n e)) (he : P.underlying e = some (.int .u8)) (hi : (P.info? e).map (·.size) = some 1) (xs ys : List UInt8) (hx : xs.length = n) (hy : ys.length = n) :
    (binOp .neq t (.agg (bvs xs).toArray) (.agg (bvs ys).toArray)).run P w = .ok (.bool (!decide (xs = ys))) w := by
  have h1 := run_eql_bytes w t e n ht he hi xs ys hx hy 9998
  simp only [binOp]
  simp [Op.equal, Op.maxDepth, h1]
section
variable {P : Program} {w : World} {o : Oper} {a : Act} {t ty : TypeId} {x y : Operand}
theorem ex_eql_arr (ho : o.op = .binOp .eql t x y ty) {xs ys : List UInt8} (hx : a.eval x = .agg (bvs xs).toArray) (hy : a.eval y = .agg (bvs ys).toArray)
    {e : TypeId} {n : Nat} (ht : P.underlying t = some (.array n e)) (he : P.underlying e = some (.int .u8)) (hi : (P.info? e).map (·.size) = some 1) (hl : xs.length = n) (hl2 : ys.length = n) (hm : P.eqGuardType P.depth t = false) {b : Bool} (hb : decide (xs = ys) = b) :
    (execOp a.eval o).run P w = .ok (.value (.bool b)) w := by
  have hr := run_bin_arr (P := P) w t e n ht he hi xs ys hl hl2
  rw [hb] at hr
  unfold execOp
  simp only [ho, hx, hy, run_eqGuard_agg (P := P) w .eql t x y _ _ hm, hr, Sem.run_bind, Sem.run_pure, Result.andThen_ok]
theorem ex_neq_arr (ho : o.op = .binOp .neq t x y ty) {xs ys : List UInt8} (hx : a.eval x = .agg (bvs xs).toArray) (hy : a.eval y = .agg (bvs ys).toArray)
    {e : TypeId} {n : Nat} (ht : P.underlying t = some (.array n e)) (he : P.underlying e = some (.int .u8)) (hi : (P.info? e).map (·.size) = some 1) (hl : xs.length = n) (hl2 : ys.length = n) (hm : P.eqGuardType P.depth t = false) {b : Bool} (hb : (!decide (xs = ys)) = b) :
    (execOp a.eval o).run P w = .ok (.value (.bool b)) w := by
  have hr := run_bin_arrN (P := P) w t e n ht he hi xs ys hl hl2
  rw [hb] at hr
  unfold execOp
  simp only [ho, hx, hy, run_eqGuard_agg (P := P) w .neq t x y _ _ hm, hr, Sem.run_bind, Sem.run_pure, Result.andThen_ok]
theorem ws_of_ex {K : Act → World → Prop} {Q : Exit → Act → World → Prop} {v : Value} (h : (execOp a.eval o).run P w = .ok (.value v) w) (hK : K (a.put o.dst v) w) : Oper.wp P o a w K Q := by
  unfold Oper.wp
  rw [h]
  exact hK
end
end Go.Proofs.Ytlhedbjjlomniaa
set_option linter.unusedSimpArgs false
set_option linter.unusedVariables false
namespace Go.Proofs.Ytlhedbjjlomniaa
open Go.RowKit
attribute [local go_sem] extract_mid extract_drop bget bsize wrap64_u8 i64_u8 u64_u8 bappend
theorem Blk.two {w : World} {g : Nat} {t : TypeId} {a b : Value} (h : Blk w g t #[a, b]) : w.cell? ⟨g, 0, none⟩ = some a ∧ w.cell? ⟨g, 1, none⟩ = some b ∧ w.frozen? ⟨g, 0, none⟩ = false ∧ w.frozen? ⟨g, 1, none⟩ = false :=
  ⟨h.cell 0, h.cell 1, h.frozen 0, h.frozen 1⟩
theorem info_rb : (Try.prog.info? 111).map (fun i => i.zero) = some (some (.agg #[.string ⟨#[]⟩, .int .i64 0])) := by kernel_rfl
set_option maxRecDepth 100000 in
theorem rBytes_any (l : List UInt8) (e n : Int) (w : World) :
    Calls Try.prog 69 #[.agg #[.string ⟨l.toArray⟩, .int .i64 e], .int .i64 n] w fun r w' =>
      r = .returned (.tuple #[.agg #[.string ⟨(mBytes l e n).2.1.toArray⟩, .int .i64 (mBytes l e n).2.2], .string ⟨(mBytes l e n).1.toArray⟩]) ∧ Ch [] w w' := by
  by_cases he : e = 0
  · subst he
    by_cases h1 : 0 ≤ n ∧ n ≤ l.length
    · obtain ⟨h2, h3⟩ := h1
      obtain ⟨k, rfl⟩ := Int.eq_ofNat_of_zero_le h2
      have h4 : k ≤ l.length := by omega
      have e1 : mBytes l 0 (k : Int) = (l.take k, l.drop k, 0) := by simp [mBytes, h4]
      rw [e1]
      go_enter Try.func69, Try.ntmps69
      go_wp2
      go_region
      all_goals
        go_wp2
        refine bodyPost_ret (v := .tuple #[.agg #[.string ⟨(l.drop k).toArray⟩, .int .i64 0], .string ⟨(l.take k).toArray⟩]) (by simp [results, Try.results69, go_sem]) rfl ⟨rfl, (by repeat (first | exact Ch.refl _ _ | assumption | apply Ch.alloc | apply Ch.drew | apply Ch.drewN | (apply Ch.setCell; rotate_left; first | (left; simp; done) | (right; simp; done) | (right; simp; omega))))⟩
    · have e1 : mBytes l 0 n = ([], [], 1) := by simp only [mBytes, if_neg h1, if_true]
      rw [e1]
      rcases (by omega : n < 0 ∨ (l.length : Int) < n) with h2 | h2
      · go_enter Try.func69, Try.ntmps69
        go_wp2
        refine bodyPost_ret (v := .tuple #[.agg #[.string ⟨#[]⟩, .int .i64 1], .string ⟨#[]⟩]) (by simp [results, Try.results69, go_sem]) rfl ⟨rfl, (by repeat (first | exact Ch.refl _ _ | assumption | apply Ch.alloc | apply Ch.drew | apply Ch.drewN | (apply Ch.setCell; rotate_left; first | (left; simp; done) | (right; simp; done) | (right; simp; omega))))⟩
      · have h3 : 0 ≤ n := by omega
        go_enter Try.func69, Try.ntmps69
        go_wp2
        refine bodyPost_ret (v := .tuple #[.agg #[.string ⟨#[]⟩, .int .i64 1], .string ⟨#[]⟩]) (by simp [results, Try.results69, go_sem]) rfl ⟨rfl, (by repeat (first | exact Ch.refl _ _ | assumption | apply Ch.alloc | apply Ch.drew | apply Ch.drewN | (apply Ch.setCell; rotate_left; first | (left; simp; done) | (right; simp; done) | (right; simp; omega))))⟩
  · have hb : (e != 0) = true := by simpa using he
    have e1 : mBytes l e n = ([], l, e) := by simp [mBytes, he]
    rw [e1]
    go_enter Try.func69, Try.ntmps69
    go_wp2
    refine bodyPost_ret (v := .tuple #[.agg #[.string ⟨l.toArray⟩, .int .i64 e], .string ⟨#[]⟩]) (by simp [results, Try.results69, go_sem]) rfl ⟨rfl, (by repeat (first | exact Ch.refl _ _ | assumption | apply Ch.alloc | apply Ch.drew | apply Ch.drewN | (apply Ch.setCell; rotate_left; first | (left; simp; done) | (right; simp; done) | (right; simp; omega))))⟩
/-- The reference's Bytes where it begins with no error. -/
theorem numOf_step (v : Nat) (d : UInt8) (hv : v < 72057594037927936) : IntKind.u64.wrap (IntKind.u64.wrap ((v : Int) * 256) + (d.toNat : Int)) = ((v * 256 + d.toNat : Nat) : Int) := by
  have := d.toNat_lt
  rw [IntWalk.u64_in ((v : Int) * 256) (by omega), IntWalk.u64_in _ (by omega)]
  omega
set_option maxRecDepth 100000 in
theorem rTakeNum_nothing {l v : List UInt8} {e n : Int} (w : World) (e1 : mBytes l e 1 = ([], v, n)) (hn : (n != 0) = true) :
    Calls Try.prog 98 #[.agg #[.string ⟨l.toArray⟩, .int .i64 e]] w fun r w' => r = .returned (.tuple #[.agg #[.string ⟨v.toArray⟩, .int .i64 n], .int .u64 0]) ∧ Ch [] w w' := by
  have H1 := Lib.hid e1
  clear e1
  go_enter Try.func98, Try.ntmps98
  go_wp2_with (first | (refine op_box rfl 111 (.tmp 0) rfl _ rfl ?_; intro g w1 hb1 hg hlt hC1; obtain ⟨c0, c1, f0, f1⟩ := hb1.two) | (refine op_alloc rfl 111 rfl _ info_rb ?_; intro g2 w2 hb2 hg2 hlt2 hC2; obtain ⟨c0, c1, f0, f1⟩ := (hb1.ch0 hC2).two; obtain ⟨k0, k1, m0, m1⟩ := hb2.two))
  have hC := hC1.trans hC2
  have hlg : g < g2 := Nat.lt_of_lt_of_le hb1.lt hg2
  replace hb1 := hb1.ch0 hC2
  have hg2 : w.heap.size ≤ g2 := by omega
  clear hC1 hC2 hlt hlt2 c0 c1 f0 f1 k0 k1 m0 m1
  refine (rBytes_any _ _ 1 _).mono ?_
  rw [H1.out]
  clear H1
  rintro r w3 ⟨rfl, hC3⟩
  obtain ⟨c0, c1, f0, f1⟩ := (hb1.ch0 hC3).two
  obtain ⟨k0, k1, m0, m1⟩ := (hb2.ch0 hC3).two
  go_wp2
  replace hC := hC.trans hC3
  refine bodyPost_ret (v := .tuple #[.agg #[.string ⟨v.toArray⟩, .int .i64 n], .int .u64 0]) (by simp [results, Try.results98, go_sem, *]) rfl ⟨rfl, (by repeat (first | exact Ch.refl _ _ | assumption | apply Ch.alloc | apply Ch.drew | apply Ch.drewN | (apply Ch.setCell; rotate_left; first | (left; simp; done) | (right; simp; done) | (right; simp; omega))))⟩
set_option maxRecDepth 100000 in
theorem rTakeNum_high {h : UInt8} {t : List UInt8} (w : World) (h8 : 8 < h.toNat) :
    Calls Try.prog 98 #[.agg #[.string ⟨(h :: t).toArray⟩, .int .i64 0]] w fun r w' => r = .returned (.tuple #[.agg #[.string ⟨#[]⟩, .int .i64 2], .int .u64 0]) ∧ Ch [] w w' := by
  have e1 : mBytes (h :: t) 0 1 = ([h], t, 0) := by simp [mBytes]; omega
  go_enter Try.func98, Try.ntmps98
  go_wp2_with (first | (refine op_box rfl 111 (.tmp 0) rfl _ rfl ?_; intro g w1 hb1 hg hlt hC1; obtain ⟨c0, c1, f0, f1⟩ := hb1.two) | (refine op_alloc rfl 111 rfl _ info_rb ?_; intro g2 w2 hb2 hg2 hlt2 hC2; obtain ⟨c0, c1, f0, f1⟩ := (hb1.ch0 hC2).two; obtain ⟨k0, k1, m0, m1⟩ := hb2.two))
  have hC := hC1.trans hC2
  have hlg : g < g2 := Nat.lt_of_lt_of_le hb1.lt hg2
  replace hb1 := hb1.ch0 hC2
  have hg2 : w.heap.size ≤ g2 := by omega
  clear hC1 hC2 hlt hlt2 c0 c1 f0 f1 k0 k1 m0 m1
  refine (rBytes_any _ _ 1 _).mono ?_
  rw [e1]
  clear e1
  rintro r w3 ⟨rfl, hC3⟩
  obtain ⟨c0, c1, f0, f1⟩ := (hb1.ch0 hC3).two
  obtain ⟨k0, k1, m0, m1⟩ := (hb2.ch0 hC3).two
  go_wp2
  replace hC := hC.trans hC3
  refine bodyPost_ret (v := .tuple #[.agg #[.string ⟨#[]⟩, .int .i64 2], .int .u64 0]) (by simp [results, Try.results98, go_sem, *]) rfl ⟨rfl, (by repeat (first | exact Ch.refl _ _ | assumption | apply Ch.alloc | apply Ch.drew | apply Ch.drewN | (apply Ch.setCell; rotate_left; first | (left; simp; done) | (right; simp; done) | (right; simp; omega))))⟩
set_option maxRecDepth 100000 in
theorem rTakeNum_bad {h : UInt8} {t u : List UInt8} {e : Int} (w : World) (h8 : h.toNat ≤ 8) (e2 : mBytes t 0 (h.toNat : Int) = ([], u, e)) (he : (e != 0) = true) :
    Calls Try.prog 98 #[.agg #[.string ⟨(h :: t).toArray⟩, .int .i64 0]] w fun r w' => r = .returned (.tuple #[.agg #[.string ⟨u.toArray⟩, .int .i64 e], .int .u64 0]) ∧ Ch [] w w' := by
  have e1 : mBytes (h :: t) 0 1 = ([h], t, 0) := by simp [mBytes]; omega
  have H2 := Lib.hid e2
  clear e2
  go_enter Try.func98, Try.ntmps98
  go_wp2_with (first | (refine op_box rfl 111 (.tmp 0) rfl _ rfl ?_; intro g w1 hb1 hg hlt hC1; obtain ⟨c0, c1, f0, f1⟩ := hb1.two) | (refine op_alloc rfl 111 rfl _ info_rb ?_; intro g2 w2 hb2 hg2 hlt2 hC2; obtain ⟨c0, c1, f0, f1⟩ := (hb1.ch0 hC2).two; obtain ⟨k0, k1, m0, m1⟩ := hb2.two))
  have hC := hC1.trans hC2
  have hlg : g < g2 := Nat.lt_of_lt_of_le hb1.lt hg2
  replace hb1 := hb1.ch0 hC2
  have hg2 : w.heap.size ≤ g2 := by omega
  clear hC1 hC2 hlt hlt2 c0 c1 f0 f1 k0 k1 m0 m1
  refine (rBytes_any _ _ 1 _).mono ?_
  rw [e1]
  clear e1
  rintro r w3 ⟨rfl, hC3⟩
  obtain ⟨c0, c1, f0, f1⟩ := (hb1.ch0 hC3).two
  obtain ⟨k0, k1, m0, m1⟩ := (hb2.ch0 hC3).two
  go_wp2_with fail
  refine (rBytes_any _ _ (h.toNat : Int) _).mono ?_
  rw [H2.out]
  rintro r w4 ⟨rfl, hC4⟩
  have hB1 := ((hb1.ch0 hC3).set_ 0 (.string ⟨t.toArray⟩)).set_ 1 (.int .i64 0)
  have hB2 := ((hb2.ch0 hC3).far (p := ⟨g, 0, none⟩) (by simp; omega) (.string ⟨t.toArray⟩)).far (p := ⟨g, 1, none⟩) (by simp; omega) (.int .i64 0)
  replace hC : Ch [] w w4 := (((hC.trans hC3).setCell (p := ⟨g, 0, none⟩) (.inr hg) _).setCell (p := ⟨g, 1, none⟩) (.inr hg) _).trans hC4
  clear c0 c1 f0 f1 k0 k1 m0 m1
  obtain ⟨c0, c1, f0, f1⟩ := (hB1.ch0 hC4).two
  obtain ⟨k0, k1, m0, m1⟩ := (hB2.ch0 hC4).two
  clear hB1 hB2 hC4 hC3 hb1 hb2 H2
  go_wp2
  refine bodyPost_ret (v := .tuple #[.agg #[.string ⟨u.toArray⟩, .int .i64 e], .int .u64 0]) (by simp [results, Try.results98, go_sem, *]) rfl ⟨rfl, (by repeat (first | exact Ch.refl _ _ | assumption | apply Ch.alloc | apply Ch.drew | apply Ch.drewN | (apply Ch.setCell; rotate_left; first | (left; simp; done) | (right; simp; done) | (right; simp; omega))))⟩
set_option maxRecDepth 100000 in
theorem rTakeNum_lead0 {h : UInt8} {t s u : List UInt8} (w : World) (h8 : h.toNat ≤ 8) (e2 : mBytes t 0 (h.toNat : Int) = (0 :: s, u, 0)) :
    Calls Try.prog 98 #[.agg #[.string ⟨(h :: t).toArray⟩, .int .i64 0]] w fun r w' => r = .returned (.tuple #[.agg #[.string ⟨#[]⟩, .int .i64 2], .int .u64 0]) ∧ Ch [] w w' := by
  have e1 : mBytes (h :: t) 0 1 = ([h], t, 0) := by simp [mBytes]; omega
  have H2 := Lib.hid e2
  clear e2
  go_enter Try.func98, Try.ntmps98
  go_wp2_with (first | (refine op_box rfl 111 (.tmp 0) rfl _ rfl ?_; intro g w1 hb1 hg hlt hC1; obtain ⟨c0, c1, f0, f1⟩ := hb1.two) | (refine op_alloc rfl 111 rfl _ info_rb ?_; intro g2 w2 hb2 hg2 hlt2 hC2; obtain ⟨c0, c1, f0, f1⟩ := (hb1.ch0 hC2).two; obtain ⟨k0, k1, m0, m1⟩ := hb2.two))
  have hC := hC1.trans hC2
  have hlg : g < g2 := Nat.lt_of_lt_of_le hb1.lt hg2
  replace hb1 := hb1.ch0 hC2
  have hg2 : w.heap.size ≤ g2 := by omega
  clear hC1 hC2 hlt hlt2 c0 c1 f0 f1 k0 k1 m0 m1
  refine (rBytes_any _ _ 1 _).mono ?_
  rw [e1]
  clear e1
  rintro r w3 ⟨rfl, hC3⟩
  obtain ⟨c0, c1, f0, f1⟩ := (hb1.ch0 hC3).two
  obtain ⟨k0, k1, m0, m1⟩ := (hb2.ch0 hC3).two
  go_wp2_with fail
  refine (rBytes_any _ _ (h.toNat : Int) _).mono ?_
  rw [H2.out]
  rintro r w4 ⟨rfl, hC4⟩
  have hB1 := ((hb1.ch0 hC3).set_ 0 (.string ⟨t.toArray⟩)).set_ 1 (.int .i64 0)
  have hB2 := ((hb2.ch0 hC3).far (p := ⟨g, 0, none⟩) (by simp; omega) (.string ⟨t.toArray⟩)).far (p := ⟨g, 1, none⟩) (by simp; omega) (.int .i64 0)
  replace hC : Ch [] w w4 := (((hC.trans hC3).setCell (p := ⟨g, 0, none⟩) (.inr hg) _).setCell (p := ⟨g, 1, none⟩) (.inr hg) _).trans hC4
  clear c0 c1 f0 f1 k0 k1 m0 m1
  obtain ⟨c0, c1, f0, f1⟩ := (hB1.ch0 hC4).two
  obtain ⟨k0, k1, m0, m1⟩ := (hB2.ch0 hC4).two
  clear hB1 hB2 hC4 hC3 hb1 hb2 H2
  go_wp2
  refine bodyPost_ret (v := .tuple #[.agg #[.string ⟨#[]⟩, .int .i64 2], .int .u64 0]) (by simp [results, Try.results98, go_sem, *]) rfl ⟨rfl, (by repeat (first | exact Ch.refl _ _ | assumption | apply Ch.alloc | apply Ch.drew | apply Ch.drewN | (apply Ch.setCell; rotate_left; first | (left; simp; done) | (right; simp; done) | (right; simp; omega))))⟩
set_option maxRecDepth 100000 in
theorem rTakeNum_empty {h : UInt8} {t u : List UInt8} (w : World) (h8 : h.toNat ≤ 8) (e2 : mBytes t 0 (h.toNat : Int) = ([], u, 0)) :
    Calls Try.prog 98 #[.agg #[.string ⟨(h :: t).toArray⟩, .int .i64 0]] w fun r w' => r = .returned (.tuple #[.agg #[.string ⟨u.toArray⟩, .int .i64 0], .int .u64 0]) ∧ Ch [] w w' := by
  have e1 : mBytes (h :: t) 0 1 = ([h], t, 0) := by simp [mBytes]; omega
  have H2 := Lib.hid e2
  clear e2
  go_enter Try.func98, Try.ntmps98
  go_wp2_with (first | (refine op_box rfl 111 (.tmp 0) rfl _ rfl ?_; intro g w1 hb1 hg hlt hC1; obtain ⟨c0, c1, f0, f1⟩ := hb1.two) | (refine op_alloc rfl 111 rfl _ info_rb ?_; intro g2 w2 hb2 hg2 hlt2 hC2; obtain ⟨c0, c1, f0, f1⟩ := (hb1.ch0 hC2).two; obtain ⟨k0, k1, m0, m1⟩ := hb2.two))
  have hC := hC1.trans hC2
  have hlg : g < g2 := Nat.lt_of_lt_of_le hb1.lt hg2
  replace hb1 := hb1.ch0 hC2
  have hg2 : w.heap.size ≤ g2 := by omega
  clear hC1 hC2 hlt hlt2 c0 c1 f0 f1 k0 k1 m0 m1
  refine (rBytes_any _ _ 1 _).mono ?_
  rw [e1]
  clear e1
  rintro r w3 ⟨rfl, hC3⟩
  obtain ⟨c0, c1, f0, f1⟩ := (hb1.ch0 hC3).two
  obtain ⟨k0, k1, m0, m1⟩ := (hb2.ch0 hC3).two
  go_wp2_with fail
  refine (rBytes_any _ _ (h.toNat : Int) _).mono ?_
  rw [H2.out]
  rintro r w4 ⟨rfl, hC4⟩
  have hB1 := ((hb1.ch0 hC3).set_ 0 (.string ⟨t.toArray⟩)).set_ 1 (.int .i64 0)
  have hB2 := ((hb2.ch0 hC3).far (p := ⟨g, 0, none⟩) (by simp; omega) (.string ⟨t.toArray⟩)).far (p := ⟨g, 1, none⟩) (by simp; omega) (.int .i64 0)
  replace hC : Ch [] w w4 := (((hC.trans hC3).setCell (p := ⟨g, 0, none⟩) (.inr hg) _).setCell (p := ⟨g, 1, none⟩) (.inr hg) _).trans hC4
  clear c0 c1 f0 f1 k0 k1 m0 m1
  obtain ⟨c0, c1, f0, f1⟩ := (hB1.ch0 hC4).two
  obtain ⟨k0, k1, m0, m1⟩ := (hB2.ch0 hC4).two
  clear hB1 hB2 hC4 hC3 hb1 hb2 H2
  go_wp2
  refine wp_loop_rounds 1 ?_
  rw [rounds_succ]
  go_wp2
  refine bodyPost_ret (v := .tuple #[.agg #[.string ⟨u.toArray⟩, .int .i64 0], .int .u64 0]) (by simp [results, Try.results98, go_sem, *]) rfl ⟨rfl, (by repeat (first | exact Ch.refl _ _ | assumption | apply Ch.alloc | apply Ch.drew | apply Ch.drewN | (apply Ch.setCell; rotate_left; first | (left; simp; done) | (right; simp; done) | (right; simp; omega))))⟩
set_option maxRecDepth 100000 in
theorem rTakeNum_ok {h : UInt8} {t s u : List UInt8} {c : UInt8} (w : World) (h8 : h.toNat ≤ 8) (e2 : mBytes t 0 (h.toNat : Int) = (c :: s, u, 0)) (h0 : ((c.toNat : Int) == 0) = false) (hl : s.length + 1 ≤ 8) :
    Calls Try.prog 98 #[.agg #[.string ⟨(h :: t).toArray⟩, .int .i64 0]] w fun r w' => r = .returned (.tuple #[.agg #[.string ⟨u.toArray⟩, .int .i64 0], .int .u64 (numOf (c :: s))]) ∧ Ch [] w w' := by
  have e1 : mBytes (h :: t) 0 1 = ([h], t, 0) := by simp [mBytes]; omega
  have H2 := Lib.hid e2
  clear e2
  go_enter Try.func98, Try.ntmps98
  go_wp2_with (first | (refine op_box rfl 111 (.tmp 0) rfl _ rfl ?_; intro g w1 hb1 hg hlt hC1; obtain ⟨c0, c1, f0, f1⟩ := hb1.two) | (refine op_alloc rfl 111 rfl _ info_rb ?_; intro g2 w2 hb2 hg2 hlt2 hC2; obtain ⟨c0, c1, f0, f1⟩ := (hb1.ch0 hC2).two; obtain ⟨k0, k1, m0, m1⟩ := hb2.two))
  have hC := hC1.trans hC2
  have hlg : g < g2 := Nat.lt_of_lt_of_le hb1.lt hg2
  replace hb1 := hb1.ch0 hC2
  have hg2 : w.heap.size ≤ g2 := by omega
  clear hC1 hC2 hlt hlt2 c0 c1 f0 f1 k0 k1 m0 m1
  refine (rBytes_any _ _ 1 _).mono ?_
  rw [e1]
  clear e1
  rintro r w3 ⟨rfl, hC3⟩
  obtain ⟨c0, c1, f0, f1⟩ := (hb1.ch0 hC3).two
  obtain ⟨k0, k1, m0, m1⟩ := (hb2.ch0 hC3).two
  go_wp2_with fail
  refine (rBytes_any _ _ (h.toNat : Int) _).mono ?_
  rw [H2.out]
  rintro r w4 ⟨rfl, hC4⟩
  have hB1 := ((hb1.ch0 hC3).set_ 0 (.string ⟨t.toArray⟩)).set_ 1 (.int .i64 0)
  have hB2 := ((hb2.ch0 hC3).far (p := ⟨g, 0, none⟩) (by simp; omega) (.string ⟨t.toArray⟩)).far (p := ⟨g, 1, none⟩) (by simp; omega) (.int .i64 0)
  replace hC : Ch [] w w4 := (((hC.trans hC3).setCell (p := ⟨g, 0, none⟩) (.inr hg) _).setCell (p := ⟨g, 1, none⟩) (.inr hg) _).trans hC4
  clear c0 c1 f0 f1 k0 k1 m0 m1
  obtain ⟨c0, c1, f0, f1⟩ := (hB1.ch0 hC4).two
  obtain ⟨k0, k1, m0, m1⟩ := (hB2.ch0 hC4).two
  clear hB1 hB2 hC4 hC3 hb1 hb2 H2
  go_wp2
  go_loop [7, 8] (fun v i => ∃ k : Nat, k ≤ (c :: s).length ∧ i = .int .i64 k ∧ v = .int .u64 (numOf ((c :: s).take k) : Nat)) (fun _ i => (c :: s).length - (intOf i).toNat)
  case atStart => exact ⟨0, Nat.zero_le _, rfl, rfl⟩
  case round =>
    obtain ⟨k, hk, rfl, rfl⟩ := hrel
    by_cases hlt : k < (c :: s).length
    · have hd := List.getElem?_eq_getElem hlt
      have ht := take_snoc_at (c :: s) k _ hd
      have hn1 := numOf_lt ((c :: s).take k)
      have hn2 := pow_le8 ((c :: s).take k).length (by simp at hlt ⊢; omega)
      have hor := numOf_step (numOf ((c :: s).take k)) ((c :: s)[k]) (by omega)
      have HT := Lib.hid ht
      have HO := Lib.hid hor
      clear ht hor hn1 hn2 hd
      have hlt2 : k < s.length + 1 := by simpa using hlt
      go_wp2
      go_round
      case rel => exact ⟨k + 1, by simp; omega, by go_num, by rw [HT.out, numOf_snoc, HO.out]⟩
      case measure => simp [intOf]; omega
    · have hge : s.length + 1 ≤ k := by simp at hlt; omega
      have hnt : numOf ((c :: s).take k) = numOf (c :: s) := by rw [List.take_of_length_le (by simp; omega)]
      have HN := Lib.hid hnt
      clear hnt
      go_wp2
      refine bodyPost_ret (v := .tuple #[.agg #[.string ⟨u.toArray⟩, .int .i64 0], .int .u64 (numOf ((c :: s).take k))]) (by simp [results, Try.results98, go_sem, *]) rfl ⟨by rw [HN.out], (by repeat (first | exact Ch.refl _ _ | assumption | apply Ch.alloc | apply Ch.drew | apply Ch.drewN | (apply Ch.setCell; rotate_left; first | (left; simp; done) | (right; simp; done) | (right; simp; omega))))⟩
theorem rTakeNum_any (l : List UInt8) (e : Int) (w : World) :
    Calls Try.prog 98 #[.agg #[.string ⟨l.toArray⟩, .int .i64 e]] w fun r w' => r = .returned (.tuple #[.agg #[.string ⟨(mNum l e).2.1.toArray⟩, .int .i64 (mNum l e).2.2], .int .u64 (mNum l e).1]) ∧ Ch [] w w' := by
  unfold mNum
  by_cases he : e = 0
  · subst he
    rw [if_pos rfl]
    cases l with
    | nil => exact rTakeNum_nothing (v := []) (n := 1) w rfl rfl
    | cons h t =>
      simp only
      by_cases h8 : 8 < h.toNat
      · rw [if_pos h8]; exact rTakeNum_high w h8
      · rw [if_neg h8]
        by_cases ht : t.length < h.toNat
        · rw [if_pos ht]
          exact rTakeNum_bad (u := []) (e := 1) w (by omega) (by simp [mBytes]; omega) rfl
        · rw [if_neg ht]
          have e2 : mBytes t 0 (h.toNat : Int) = (t.take h.toNat, t.drop h.toNat, 0) := by simp [mBytes]; omega
          have hl : (t.take h.toNat).length ≤ 8 := by simp; omega
          cases hs : t.take h.toNat with
          | nil =>
            rw [hs] at e2
            simp only [List.head?_nil, reduceCtorEq, if_false]
            exact rTakeNum_empty w (by omega) e2
          | cons c s =>
            rw [hs] at e2 hl
            simp only [List.head?_cons, Option.some.injEq]
            by_cases hc : c = 0
            · subst hc
              rw [if_pos rfl]
              exact rTakeNum_lead0 w (by omega) e2
            · rw [if_neg hc]
              refine rTakeNum_ok w (by omega) e2 ?_ (by simpa using hl)
              simp only [beq_eq_false_iff_ne, ne_eq]
              intro h0
              exact hc (UInt8.toNat_inj.1 (by simpa using h0))
  · rw [if_neg he]
    exact rTakeNum_nothing (n := e) w (by simp [mBytes, he]) (by simpa using he)
end Go.Proofs.Ytlhedbjjlomniaa
set_option linter.unusedSimpArgs false
set_option linter.unusedVariables false
namespace Go.Proofs.Ytlhedbjjlomniaa
open Go.RowKit
attribute [local go_sem] extract_mid extract_drop bget bsize wrap64_u8 i64_u8 u64_u8 bappend
set_option maxRecDepth 100000 in
theorem rInt_err {l u : List UInt8} {e f top : Int} {n : Nat} (w : World) (hm : mNum l e = (n, u, f)) (hf : (f != 0) = true) :
    Calls Try.prog 68 #[.agg #[.string ⟨l.toArray⟩, .int .i64 e], .int .i64 top] w fun r w' => r = .returned (.tuple #[.agg #[.string ⟨u.toArray⟩, .int .i64 f], .int .i64 0]) ∧ Ch [] w w' := by
  have HM := Lib.hid hm
  clear hm
  go_enter Try.func68, Try.ntmps68
  go_wp2_with (first | (refine op_box rfl 111 (.tmp 0) rfl _ rfl ?_; intro g w1 hb1 hg hlt hC1; obtain ⟨c0, c1, f0, f1⟩ := hb1.two) | (refine op_alloc rfl 111 rfl _ info_rb ?_; intro g2 w2 hb2 hg2 hlt2 hC2; obtain ⟨c0, c1, f0, f1⟩ := (hb1.ch0 hC2).two; obtain ⟨k0, k1, m0, m1⟩ := hb2.two))
  have hC := hC1.trans hC2
  have hlg : g < g2 := Nat.lt_of_lt_of_le hb1.lt hg2
  replace hb1 := hb1.ch0 hC2
  have hg2 : w.heap.size ≤ g2 := by omega
  clear hC1 hC2 hlt hlt2 c0 c1 f0 f1 k0 k1 m0 m1
  refine (rTakeNum_any l e _).mono ?_
  rw [HM.out]
  rintro r w3 ⟨rfl, hC3⟩
  obtain ⟨c0, c1, f0, f1⟩ := (hb1.ch0 hC3).two
  obtain ⟨k0, k1, m0, m1⟩ := (hb2.ch0 hC3).two
  replace hC := hC.trans hC3
  go_wp2
  refine bodyPost_ret (v := .tuple #[.agg #[.string ⟨u.toArray⟩, .int .i64 f], .int .i64 0]) (by simp [results, Try.results68, go_sem, *]) rfl ⟨rfl, (by repeat (first | exact Ch.refl _ _ | assumption | apply Ch.alloc | apply Ch.drew | apply Ch.drewN | (apply Ch.setCell; rotate_left; first | (left; simp; done) | (right; simp; done) | (right; simp; omega))))⟩
set_option maxRecDepth 100000 in
theorem rInt_ok {l u : List UInt8} {e top : Int} {n : Nat} (w : World) (hm : mNum l e = (n, u, 0)) (ht : top ≤ 9223372036854775807) (hn : (n : Int) ≤ max top 0) :
    Calls Try.prog 68 #[.agg #[.string ⟨l.toArray⟩, .int .i64 e], .int .i64 top] w fun r w' => r = .returned (.tuple #[.agg #[.string ⟨u.toArray⟩, .int .i64 0], .int .i64 n]) ∧ Ch [] w w' := by
  have HM := Lib.hid hm
  have h1 : max top 0 ≤ 9223372036854775807 := by omega
  have h2 : 0 ≤ max top 0 := by omega
  clear hm
  go_enter Try.func68, Try.ntmps68
  go_wp2_with (first | (refine op_box rfl 111 (.tmp 0) rfl _ rfl ?_; intro g w1 hb1 hg hlt hC1; obtain ⟨c0, c1, f0, f1⟩ := hb1.two) | (refine op_alloc rfl 111 rfl _ info_rb ?_; intro g2 w2 hb2 hg2 hlt2 hC2; obtain ⟨c0, c1, f0, f1⟩ := (hb1.ch0 hC2).two; obtain ⟨k0, k1, m0, m1⟩ := hb2.two))
  have hC := hC1.trans hC2
  have hlg : g < g2 := Nat.lt_of_lt_of_le hb1.lt hg2
  replace hb1 := hb1.ch0 hC2
  have hg2 : w.heap.size ≤ g2 := by omega
  clear hC1 hC2 hlt hlt2 c0 c1 f0 f1 k0 k1 m0 m1
  refine (rTakeNum_any l e _).mono ?_
  rw [HM.out]
  rintro r w3 ⟨rfl, hC3⟩
  obtain ⟨c0, c1, f0, f1⟩ := (hb1.ch0 hC3).two
  obtain ⟨k0, k1, m0, m1⟩ := (hb2.ch0 hC3).two
  replace hC := hC.trans hC3
  go_wp2
  all_goals
    refine bodyPost_ret (v := .tuple #[.agg #[.string ⟨u.toArray⟩, .int .i64 0], .int .i64 n]) (by simp [results, Try.results68, go_sem, *]) rfl ⟨rfl, (by repeat (first | exact Ch.refl _ _ | assumption | apply Ch.alloc | apply Ch.drew | apply Ch.drewN | (apply Ch.setCell; rotate_left; first | (left; simp; done) | (right; simp; done) | (right; simp; omega))))⟩
set_option maxRecDepth 100000 in
theorem rInt_big {l u : List UInt8} {e top : Int} {n : Nat} (w : World) (hm : mNum l e = (n, u, 0)) (ht : top ≤ 9223372036854775807) (hn : max top 0 < (n : Int)) :
    Calls Try.prog 68 #[.agg #[.string ⟨l.toArray⟩, .int .i64 e], .int .i64 top] w fun r w' => r = .returned (.tuple #[.agg #[.string ⟨#[]⟩, .int .i64 5], .int .i64 0]) ∧ Ch [] w w' := by
  have HM := Lib.hid hm
  have h1 : max top 0 ≤ 9223372036854775807 := by omega
  have h2 : 0 ≤ max top 0 := by omega
  clear hm
  go_enter Try.func68, Try.ntmps68
  go_wp2_with (first | (refine op_box rfl 111 (.tmp 0) rfl _ rfl ?_; intro g w1 hb1 hg hlt hC1; obtain ⟨c0, c1, f0, f1⟩ := hb1.two) | (refine op_alloc rfl 111 rfl _ info_rb ?_; intro g2 w2 hb2 hg2 hlt2 hC2; obtain ⟨c0, c1, f0, f1⟩ := (hb1.ch0 hC2).two; obtain ⟨k0, k1, m0, m1⟩ := hb2.two))
  have hC := hC1.trans hC2
  have hlg : g < g2 := Nat.lt_of_lt_of_le hb1.lt hg2
  replace hb1 := hb1.ch0 hC2
  have hg2 : w.heap.size ≤ g2 := by omega
  clear hC1 hC2 hlt hlt2 c0 c1 f0 f1 k0 k1 m0 m1
  refine (rTakeNum_any l e _).mono ?_
  rw [HM.out]
  rintro r w3 ⟨rfl, hC3⟩
  obtain ⟨c0, c1, f0, f1⟩ := (hb1.ch0 hC3).two
  obtain ⟨k0, k1, m0, m1⟩ := (hb2.ch0 hC3).two
  replace hC := hC.trans hC3
  go_wp2
  all_goals
    refine bodyPost_ret (v := .tuple #[.agg #[.string ⟨#[]⟩, .int .i64 5], .int .i64 0]) (by simp [results, Try.results68, go_sem, *]) rfl ⟨rfl, (by repeat (first | exact Ch.refl _ _ | assumption | apply Ch.alloc | apply Ch.drew | apply Ch.drewN | (apply Ch.setCell; rotate_left; first | (left; simp; done) | (right; simp; done) | (right; simp; omega))))⟩
theorem rInt_any (l : List UInt8) (e top : Int) (ht : top ≤ 9223372036854775807) (w : World) :
    Calls Try.prog 68 #[.agg #[.string ⟨l.toArray⟩, .int .i64 e], .int .i64 top] w fun r w' => r = .returned (.tuple #[.agg #[.string ⟨(mInt l e top).2.1.toArray⟩, .int .i64 (mInt l e top).2.2], .int .i64 (mInt l e top).1]) ∧ Ch [] w w' := by
  obtain ⟨n, u, f, hm⟩ : ∃ n u f, mNum l e = (n, u, f) := ⟨_, _, _, rfl⟩
  unfold mInt
  rw [hm]
  simp only
  by_cases hf : f = 0
  · subst hf
    rw [if_pos rfl]
    by_cases hb : max top 0 < (n : Int)
    · rw [if_pos hb]; exact rInt_big w hm ht hb
    · rw [if_neg hb]; exact rInt_ok w hm ht (by omega)
  · rw [if_neg hf]
    exact rInt_err w hm (by simpa using hf)
set_option maxRecDepth 100000 in
theorem rTakeStr_any (l : List UInt8) (e top : Int) (ht : top ≤ 9223372036854775807) (w : World) :
    Calls Try.prog 70 #[.agg #[.string ⟨l.toArray⟩, .int .i64 e], .int .i64 top] w fun r w' => r = .returned (.tuple #[.agg #[.string ⟨(mStr l e top).2.1.toArray⟩, .int .i64 (mStr l e top).2.2], .string ⟨(mStr l e top).1.toArray⟩]) ∧ Ch [] w w' := by
  obtain ⟨n, u, f, hm⟩ : ∃ n u f, mInt l e top = (n, u, f) := ⟨_, _, _, rfl⟩
  obtain ⟨s, v, h, hs⟩ : ∃ s v h, mBytes u f n = (s, v, h) := ⟨_, _, _, rfl⟩
  have hp : mStr l e top = (s, v, h) := by unfold mStr; rw [hm]; exact hs
  rw [hp]
  have HM := Lib.hid hm
  have HS := Lib.hid hs
  clear hm hs hp
  go_enter Try.func70, Try.ntmps70
  go_wp2_with (first | (refine op_box rfl 111 (.tmp 0) rfl _ rfl ?_; intro g w1 hb1 hg hlt hC1; obtain ⟨c0, c1, f0, f1⟩ := hb1.two) | (refine op_alloc rfl 111 rfl _ info_rb ?_; intro g2 w2 hb2 hg2 hlt2 hC2; obtain ⟨c0, c1, f0, f1⟩ := (hb1.ch0 hC2).two; obtain ⟨k0, k1, m0, m1⟩ := hb2.two))
  have hC := hC1.trans hC2
  have hlg : g < g2 := Nat.lt_of_lt_of_le hb1.lt hg2
  replace hb1 := hb1.ch0 hC2
  have hg2 : w.heap.size ≤ g2 := by omega
  clear hC1 hC2 hlt hlt2 c0 c1 f0 f1 k0 k1 m0 m1
  refine (rInt_any l e top ht _).mono ?_
  rw [HM.out]
  rintro r w3 ⟨rfl, hC3⟩
  obtain ⟨c0, c1, f0, f1⟩ := (hb1.ch0 hC3).two
  obtain ⟨k0, k1, m0, m1⟩ := (hb2.ch0 hC3).two
  go_wp2_with fail
  refine (rBytes_any u f n _).mono ?_
  rw [HS.out]
  rintro r w4 ⟨rfl, hC4⟩
  have hB2 := ((hb2.ch0 hC3).far (p := ⟨g, 0, none⟩) (by simp; omega) (.string ⟨u.toArray⟩)).far (p := ⟨g, 1, none⟩) (by simp; omega) (.int .i64 f)
  replace hC : Ch [] w w4 := (((hC.trans hC3).setCell (p := ⟨g, 0, none⟩) (.inr hg) _).setCell (p := ⟨g, 1, none⟩) (.inr hg) _).trans hC4
  clear k0 k1 m0 m1
  obtain ⟨k0, k1, m0, m1⟩ := (hB2.ch0 hC4).two
  go_wp2
  refine bodyPost_ret (v := .tuple #[.agg #[.string ⟨v.toArray⟩, .int .i64 h], .string ⟨s.toArray⟩]) (by simp [results, Try.results70, go_sem, *]) rfl ⟨rfl, (by repeat (first | exact Ch.refl _ _ | assumption | apply Ch.alloc | apply Ch.drew | apply Ch.drewN | (apply Ch.setCell; rotate_left; first | (left; simp; done) | (right; simp; done) | (right; simp; omega))))⟩
end Go.Proofs.Ytlhedbjjlomniaa
set_option linter.unusedSimpArgs false
set_option linter.unusedVariables false
namespace Go.Proofs.Ytlhedbjjlomniaa
open Go.RowKit
attribute [local go_sem] extract_mid extract_drop bget bsize wrap64_u8 i64_u8 u64_u8 bappend
set_option maxRecDepth 100000 in
theorem ixs1_any (s : ByteArray) (c : UInt8) (w : World) : Calls Try.prog 109 #[.string s, .int .u8 (c.toNat : Int)] w fun r w' => r = .returned (.int .i64 (firstIdx s c)) ∧ w = w' := by
  have hc : ((c.toNat : Int)).toNat.toUInt8 = c := by simp
  have hrun : ∀ W, (callFunc 118 #[.string s, .int .u8 (c.toNat : Int)]).run Try.prog W = .ok (.value (.int .i64 (firstIdx s c))) W := fun W => by
    rw [run_callFunc_extern (e := Extern.BytealgIndexByte.indexByte) Try.func118 (by kernel_rfl) (by kernel_rfl) (by kernel_rfl) (by kernel_rfl), run_indexByte_string, hc]
    rfl
  have HR := Lib.hid hrun
  clear hrun
  generalize firstIdx s c = v at HR ⊢
  go_enter Try.func109, Try.ntmps109
  go_wp2_with (first | (refine BigFrame.wpList_want (by rfl) fun K hK => ws_of_ex (v := .int .i64 v) (by simp only [execOp, resolve, invoke, Sem.run_bind, Sem.run_pure, Result.andThen_ok]; go_simp; exact HR.out _) (hK _ _ ?_); clear hK K))
  go_ret
  exact ⟨rfl, rfl⟩
set_option maxRecDepth 100000 in
theorem ix1_any (s : ByteArray) (c : UInt8) (w : World) : Calls Try.prog 91 #[.string s, .int .u8 (c.toNat : Int)] w fun r w' => r = .returned (.int .i64 (firstIdx s c)) ∧ w = w' := by
  have HR := Lib.hid (ixs1_any s c)
  generalize firstIdx s c = v at HR ⊢
  go_enter Try.func91, Try.ntmps91
  go_wp2_with (first | (go_at_call 109; refine (HR.out _).mono ?_; rintro _ _ ⟨rfl, rfl⟩))
  go_ret
  exact ⟨rfl, rfl⟩
def hasS (k : Int) : List UInt8 := if k = 1 ∨ k = 2 then [46] else if k = 4 then [110, 108] else if k = 7 ∨ k = 9 then [110, 119] else if k = 8 then [110, 119, 116] else if k = 3 ∨ k = 5 ∨ k = 6 ∨ k = 10 then [110] else []
set_option maxRecDepth 100000 in
theorem has_any (k : Int) (w : World) : Calls Try.prog 49 #[.int .i64 k] w fun r w' => r = .returned (.string ⟨(hasS k).toArray⟩) ∧ w = w' := by
  by_cases h : k = 1 ∨ k = 2 ∨ k = 3 ∨ k = 4 ∨ k = 5 ∨ k = 6 ∨ k = 7 ∨ k = 8 ∨ k = 9 ∨ k = 10
  · rcases h with rfl | rfl | rfl | rfl | rfl | rfl | rfl | rfl | rfl | rfl
    all_goals
      go_enter Try.func49, Try.ntmps49
      go_wp2
      go_ret
      exact ⟨rfl, rfl⟩
  · have hs : hasS k = [] := by unfold hasS; rw [if_neg (by omega), if_neg (by omega), if_neg (by omega), if_neg (by omega), if_neg (by omega)]
    rw [hs]
    have e1 : (k == 1) = false := by rw [beq_eq_false_iff_ne]; omega
    have e2 : (k == 2) = false := by rw [beq_eq_false_iff_ne]; omega
    have e3 : (k == 3) = false := by rw [beq_eq_false_iff_ne]; omega
    have e4 : (k == 4) = false := by rw [beq_eq_false_iff_ne]; omega
    have e5 : (k == 5) = false := by rw [beq_eq_false_iff_ne]; omega
    have e6 : (k == 6) = false := by rw [beq_eq_false_iff_ne]; omega
    have e7 : (k == 7) = false := by rw [beq_eq_false_iff_ne]; omega
    have e8 : (k == 8) = false := by rw [beq_eq_false_iff_ne]; omega
    have e9 : (k == 9) = false := by rw [beq_eq_false_iff_ne]; omega
    have e10 : (k == 10) = false := by rw [beq_eq_false_iff_ne]; omega
    clear hs h
    go_enter Try.func49, Try.ntmps49
    go_wp2
    go_ret
    exact ⟨rfl, rfl⟩
def partB (k : Int) (c : UInt8) : Bool := decide (0 ≤ firstIdx ⟨(hasS k).toArray⟩ c)
set_option maxRecDepth 100000 in
theorem part_any (k : Int) (c : UInt8) (w : World) : Calls Try.prog 51 #[.int .i64 k, .int .u8 (c.toNat : Int)] w fun r w' => r = .returned (.bool (partB k c)) ∧ w = w' := by
  have H1 := Lib.hid (has_any k)
  have H2 := Lib.hid (ix1_any ⟨(hasS k).toArray⟩ c)
  unfold partB
  generalize firstIdx ⟨(hasS k).toArray⟩ c = v at H2 ⊢
  generalize hasS k = s at H1 H2
  go_enter Try.func51, Try.ntmps51
  go_wp2_with (first | (go_at_call 49; refine (H1.out _).mono ?_; rintro _ _ ⟨rfl, rfl⟩) | (go_at_call 91; refine (H2.out _).mono ?_; rintro _ _ ⟨rfl, rfl⟩))
  go_ret
  exact ⟨rfl, rfl⟩
set_option maxRecDepth 100000 in
theorem partB_all (k : Int) : partB k 110 = hasName k ∧ partB k 119 = hasWhat k ∧ partB k 116 = is8 k ∧ partB k 108 = is4 k := by
  by_cases h : k = 1 ∨ k = 2 ∨ k = 3 ∨ k = 4 ∨ k = 5 ∨ k = 6 ∨ k = 7 ∨ k = 8 ∨ k = 9 ∨ k = 10
  · rcases h with rfl | rfl | rfl | rfl | rfl | rfl | rfl | rfl | rfl | rfl <;> decide +kernel
  · have hs : hasS k = [] := by unfold hasS; rw [if_neg (by omega), if_neg (by omega), if_neg (by omega), if_neg (by omega), if_neg (by omega)]
    have hn : hasName k = false := by unfold hasName; rw [decide_eq_false_iff_not]; omega
    have hw : hasWhat k = false := by unfold hasWhat; rw [decide_eq_false_iff_not]; omega
    have h8 : is8 k = false := by unfold is8; rw [decide_eq_false_iff_not]; omega
    have h4 : is4 k = false := by unfold is4; rw [decide_eq_false_iff_not]; omega
    unfold partB
    rw [hs, hn, hw, h8, h4]
    decide +kernel
set_option maxRecDepth 100000 in
theorem part_n (k : Int) (w : World) : Calls Try.prog 51 #[.int .i64 k, .int .u8 110] w fun r w' => r = .returned (.bool (hasName k)) ∧ w = w' := by have := part_any k 110 w; rwa [(partB_all k).1] at this
set_option maxRecDepth 100000 in
theorem part_w (k : Int) (w : World) : Calls Try.prog 51 #[.int .i64 k, .int .u8 119] w fun r w' => r = .returned (.bool (hasWhat k)) ∧ w = w' := by have := part_any k 119 w; rwa [(partB_all k).2.1] at this
set_option maxRecDepth 100000 in
theorem part_t (k : Int) (w : World) : Calls Try.prog 51 #[.int .i64 k, .int .u8 116] w fun r w' => r = .returned (.bool (is8 k)) ∧ w = w' := by have := part_any k 116 w; rwa [(partB_all k).2.2.1] at this
set_option maxRecDepth 100000 in
theorem part_l (k : Int) (w : World) : Calls Try.prog 51 #[.int .i64 k, .int .u8 108] w fun r w' => r = .returned (.bool (is4 k)) ∧ w = w' := by have := part_any k 108 w; rwa [(partB_all k).2.2.2] at this
set_option maxRecDepth 100000 in
theorem address_any (n : Int) (w : World) : Calls Try.prog 50 #[.int .i64 n] w fun r w' => r = .returned (.bool (addr n)) ∧ w = w' := by
  unfold addr
  by_cases h1 : 0 ≤ n <;> by_cases h2 : n < 64
  all_goals
    go_enter Try.func50, Try.ntmps50
    go_wp2
    all_goals
      go_ret
      exact ⟨ret_bool (by simp [*]), rfl⟩
set_option maxRecDepth 100000 in
theorem rAddress_any (n : Int) (w : World) : Calls Try.prog 52 #[.int .i64 n] w fun r w' => r = .returned (.bool (addr n)) ∧ w = w' := by
  unfold addr
  by_cases h1 : 0 ≤ n <;> by_cases h2 : n < 64
  all_goals
    go_enter Try.func52, Try.ntmps52
    go_wp2
    all_goals
      go_ret
      exact ⟨ret_bool (by simp [*]), rfl⟩
set_option maxRecDepth 100000 in
theorem rName_any (k : Int) (w : World) : Calls Try.prog 25 #[.int .i64 k] w fun r w' => r = .returned (.bool (hasName k)) ∧ w = w' := by
  unfold hasName
  by_cases h1 : 3 ≤ k <;> by_cases h2 : k ≤ 10
  all_goals
    go_enter Try.func25, Try.ntmps25
    go_wp2
    all_goals
      go_ret
      exact ⟨ret_bool (by simp [*]), rfl⟩
set_option maxRecDepth 100000 in
theorem rWhat_any (k : Int) (w : World) : Calls Try.prog 26 #[.int .i64 k] w fun r w' => r = .returned (.bool (hasWhat k)) ∧ w = w' := by
  unfold hasWhat
  by_cases h1 : 7 ≤ k <;> by_cases h2 : k ≤ 9
  all_goals
    go_enter Try.func26, Try.ntmps26
    go_wp2
    all_goals
      go_ret
      exact ⟨ret_bool (by simp [*]), rfl⟩
set_option maxRecDepth 100000 in
theorem rZero_any (l : List UInt8) (hl : l.length ≤ 1000000000) (w : World) : Calls Try.prog 53 #[.string ⟨l.toArray⟩] w fun r w' => r = .returned (.bool (zeroB l)) ∧ w = w' := by
  go_enter Try.func53, Try.ntmps53
  go_wp2
  go_loop [3] (fun i => ∃ k : Nat, k ≤ l.length ∧ i = .int .i64 k ∧ Hid (zeroB (l.take k) = true)) (fun i => l.length - (intOf i).toNat)
  case atStart => exact ⟨0, by omega, rfl, rfl⟩
  case round =>
    obtain ⟨k, hk, rfl, HZ⟩ := hrel
    by_cases hlt : k < l.length
    · have hg := List.getElem?_eq_getElem hlt
      have ht := take_snoc_at l k _ hg
      by_cases h0 : l[k] = 0
      · have hz : zeroB (l.take (k + 1)) = true := by rw [ht]; unfold zeroB at *; rw [List.all_append, HZ.out]; simp [h0]
        have H0 := Lib.hid hz
        have hb : ((l[k].toNat : Int) != 0) = false := by rw [h0]; rfl
        have hb2 : ((l[k].toNat : Int) == 0) = true := by rw [h0]; rfl
        clear hz ht hg h0
        go_wp2
        go_round
        case rel => exact ⟨k + 1, by omega, by go_num, H0.out⟩
        case measure => simp [intOf]; omega
      · have hz : zeroB l = false := by
          unfold zeroB
          rw [List.all_eq_false]
          exact ⟨l[k], List.getElem_mem hlt, by simpa using h0⟩
        have H0 := Lib.hid hz
        have hne : (l[k].toNat : Int) ≠ 0 := fun h => h0 (UInt8.toNat_inj.1 (by simpa using h))
        have hb : ((l[k].toNat : Int) != 0) = true := by simpa using hne
        have hb2 : ((l[k].toNat : Int) == 0) = false := by simpa using hne
        clear hz ht hg h0
        go_wp2
        go_ret
        exact ⟨ret_bool H0.out.symm, rfl⟩
    · have hz : zeroB l = true := by have := HZ.out; rwa [List.take_of_length_le (by omega)] at this
      have H0 := Lib.hid hz
      clear hz
      go_wp2
      go_ret
      exact ⟨ret_bool H0.out.symm, rfl⟩
set_option maxRecDepth 100000 in
theorem rAll_star {F : List SProp} (l : List Int) (A : Option Addr) (n c : Nat) (hn : n ≤ 1000000000) (w : World) (hM : Star F w) (hF : rowE 1 A n (ivs l) ∈ F) : Calls Try.prog 54 #[.slice A n c] w fun r w' => r = .returned (.bool (l.all addr)) ∧ Star F w' := by
  have HL := Lib.hid (ivs_row (hM.row hF))
  go_enter Try.func54, Try.ntmps54
  go_wp2
  go_loopw [7] (fun i wr => ∃ k : Nat, k ≤ n ∧ i = .int .i64 k ∧ Hid ((l.take k).all addr = true) ∧ Star F wr) (fun i _ => n - (intOf i).toNat)
  case atStart => exact ⟨0, by omega, rfl, rfl, hM⟩
  case round =>
    clear hM
    obtain ⟨k, hk, rfl, HZ, hM⟩ := hrel
    by_cases hlt : k < n
    · obtain ⟨ad, d, rfl, hc, hg, ht⟩ := hM.elemI hF hlt
      have HR := Lib.hid (rAddress_any d)
      rcases hb : addr d with _ | _
      · have hz : l.all addr = false := by
          rw [List.all_eq_false]
          exact ⟨d, List.mem_of_getElem? hg, by simp [hb]⟩
        rw [hb] at HR
        have H0 := Lib.hid hz
        clear hz ht hg hb
        go_wp2_with (first | (first | (refine BigFrame.wpList_want (by rfl) fun K hK => ws_rowload rfl rfl (by first | (apply Star.row hM; (repeat (first | assumption | (with_reducible exact List.mem_cons_self) | apply List.mem_cons_of_mem)); done) | (apply Star.own hM; (repeat (first | assumption | (with_reducible exact List.mem_cons_self) | apply List.mem_cons_of_mem)); done) | (apply Star.arr hM; (focus ((repeat (first | assumption | (with_reducible exact List.mem_cons_self) | apply List.mem_cons_of_mem)); done)); assumption)) (by assumption) (by kernel_rfl) (hK _ _ ?_); clear hK K) | fail) | (go_at_call 52; have hM0 := hM; clear hM; (first | (with_reducible refine (starq (HR.out _) hM0).mono ?_) | fail); clear hM0; rintro _ w ⟨rfl, hM⟩))
        go_ret
        exact ⟨ret_bool H0.out.symm, hM⟩
      · have hz : (l.take (k + 1)).all addr = true := by rw [ht, List.all_append, HZ.out]; simp [hb]
        rw [hb] at HR
        have H0 := Lib.hid hz
        clear hz ht hg hb
        go_wp2_with (first | (first | (refine BigFrame.wpList_want (by rfl) fun K hK => ws_rowload rfl rfl (by first | (apply Star.row hM; (repeat (first | assumption | (with_reducible exact List.mem_cons_self) | apply List.mem_cons_of_mem)); done) | (apply Star.own hM; (repeat (first | assumption | (with_reducible exact List.mem_cons_self) | apply List.mem_cons_of_mem)); done) | (apply Star.arr hM; (focus ((repeat (first | assumption | (with_reducible exact List.mem_cons_self) | apply List.mem_cons_of_mem)); done)); assumption)) (by assumption) (by kernel_rfl) (hK _ _ ?_); clear hK K) | fail) | (go_at_call 52; have hM0 := hM; clear hM; (first | (with_reducible refine (starq (HR.out _) hM0).mono ?_) | fail); clear hM0; rintro _ w ⟨rfl, hM⟩))
        go_roundw
        case rel => exact ⟨k + 1, by omega, by go_num, H0.out, hM⟩
        case measure => simp [intOf]; omega
    · have hz : l.all addr = true := by have := HZ.out; rwa [List.take_of_length_le (by rw [HL.out]; omega)] at this
      have H0 := Lib.hid hz
      clear hz
      go_wp2
      go_ret
      exact ⟨ret_bool H0.out.symm, hM⟩
set_option maxRecDepth 100000 in
theorem rnum_star {F : List SProp} (n : Int) (hn : n ≤ 9223372036854775807) (w : World) (hM : Star F w) : Calls Try.prog 65 #[.int .i64 n] w fun r w' => r = .returned (.string ⟨(encN n).toArray⟩) ∧ Star F w' := by
  obtain ⟨m, hm⟩ : ∃ m : Nat, max n 0 = (m : Int) := ⟨(max n 0).toNat, by omega⟩
  have hmb : m ≤ 9223372036854775807 := by omega
  have hk : (if n < 0 then (0 : Int) else n) = (m : Int) := by split <;> omega
  have HE : Hid (encN n = encNum m) := by show _ = _; unfold encN; rw [hm]; rfl
  clear hm
  go_enter Try.func65, Try.ntmps65
  go_wp2_with (first | (go_at_call 97; have hM0 := hM; clear hM; (first | (with_reducible refine (rNum_star m (by omega) _ hM0).mono ?_) | fail); clear hM0; rintro _ w ⟨rfl, hM⟩))
  all_goals
    go_ret
    exact ⟨ret_str HE.out.symm, hM⟩
end Go.Proofs.Ytlhedbjjlomniaa
set_option linter.unusedSimpArgs false
set_option linter.unusedVariables false
namespace Go.Proofs.Ytlhedbjjlomniaa
open Go.RowKit
attribute [local go_sem] extract_mid extract_drop bget bsize wrap64_u8 i64_u8 u64_u8 bappend
/-- A letter's cells. -/
@[irreducible] def ltC (k f t q : Int) (id : List UInt8) (wh : Int) (x : List UInt8) (A : Option Addr) (n c : Nat) (B : Option Addr) (m d : Nat) : Array Value :=
  ([iv k, iv f, iv t, iv q] ++ (bvs id ++ [iv wh, sv x, .slice A n c, .slice B m d])).toArray
section
variable {k f t q : Int} {id : List UInt8} {wh : Int} {x : List UInt8} {A : Option Addr} {n c : Nat} {B : Option Addr} {m d : Nat}
theorem ltC_0 : (ltC k f t q id wh x A n c B m d)[0]? = some (.int .i64 k) := by unfold ltC; simp [iv]
theorem ltC_1 : (ltC k f t q id wh x A n c B m d)[1]? = some (.int .i64 f) := by unfold ltC; simp [iv]
theorem ltC_2 : (ltC k f t q id wh x A n c B m d)[2]? = some (.int .i64 t) := by unfold ltC; simp [iv]
theorem ltC_3 : (ltC k f t q id wh x A n c B m d)[3]? = some (.int .i64 q) := by unfold ltC; simp [iv]
theorem ltC_tail (h : id.length = 32) (j : Nat) : (ltC k f t q id wh x A n c B m d)[36 + j]? = ([iv wh, sv x, .slice A n c, .slice B m d] : List Value)[j]? := by
  unfold ltC
  rw [List.getElem?_toArray, List.getElem?_append_right (by simp; omega), List.getElem?_append_right (by simp [bvs_len]; omega)]
  congr 1
  simp [bvs_len, h]; omega
theorem ltC_36 (h : id.length = 32) : (ltC k f t q id wh x A n c B m d)[36]? = some (.int .i64 wh) := ltC_tail h 0
theorem ltC_37 (h : id.length = 32) : (ltC k f t q id wh x A n c B m d)[37]? = some (.string ⟨x.toArray⟩) := ltC_tail h 1
theorem ltC_38 (h : id.length = 32) : (ltC k f t q id wh x A n c B m d)[38]? = some (.slice A n c) := ltC_tail h 2
theorem ltC_39 (h : id.length = 32) : (ltC k f t q id wh x A n c B m d)[39]? = some (.slice B m d) := ltC_tail h 3
theorem ltC_size (h : id.length = 32) : (ltC k f t q id wh x A n c B m d).size = 40 := by unfold ltC; simp [bvs_len, h]
theorem ltC_one : ∀ v ∈ (ltC k f t q id wh x A n c B m d).toList, v.oneCell' = true := by
  unfold ltC
  intro v hv
  simp only [List.mem_append, List.mem_cons, List.not_mem_nil, or_false] at hv
  rcases hv with (rfl | rfl | rfl | rfl) | hv | rfl | rfl | rfl | rfl
  all_goals first | rfl | exact bvs_oneCell _ _ hv
theorem ltC_id : ∀ j v, (bvs id)[j]? = some v → (ltC k f t q id wh x A n c B m d)[4 + j]? = some v := by
  intro j v hv
  have hj := (List.getElem?_eq_some_iff.1 hv).1
  unfold ltC
  rw [List.getElem?_toArray, List.getElem?_append_right (by simp), List.getElem?_append_left (by simpa using hj)]
  simpa using hv
theorem ltC_put36 (h : id.length = 32) (v : Int) : (ltC k f t q id wh x A n c B m d).setIfInBounds 36 (.int .i64 v) = ltC k f t q id v x A n c B m d := by
  unfold ltC
  rw [List.setIfInBounds_toArray, List.set_append_right _ _ (by simp), List.set_append_right _ _ (by simp [bvs_len, h])]
  simp [bvs_len, h, iv]
theorem ltC_put37 (h : id.length = 32) (v : List UInt8) : (ltC k f t q id wh x A n c B m d).setIfInBounds 37 (.string ⟨v.toArray⟩) = ltC k f t q id wh v A n c B m d := by
  unfold ltC
  rw [List.setIfInBounds_toArray, List.set_append_right _ _ (by simp), List.set_append_right _ _ (by simp [bvs_len, h])]
  simp [bvs_len, h, sv]
theorem ltC_put38 (h : id.length = 32) (A' : Option Addr) (n' c' : Nat) : (ltC k f t q id wh x A n c B m d).setIfInBounds 38 (.slice A' n' c') = ltC k f t q id wh x A' n' c' B m d := by
  unfold ltC
  rw [List.setIfInBounds_toArray, List.set_append_right _ _ (by simp), List.set_append_right _ _ (by simp [bvs_len, h])]
  simp [bvs_len, h]
theorem ltC_put39 (h : id.length = 32) (B' : Option Addr) (m' d' : Nat) : (ltC k f t q id wh x A n c B m d).setIfInBounds 39 (.slice B' m' d') = ltC k f t q id wh x A n c B' m' d' := by
  unfold ltC
  rw [List.setIfInBounds_toArray, List.set_append_right _ _ (by simp), List.set_append_right _ _ (by simp [bvs_len, h])]
  simp [bvs_len, h]
theorem ltC_putid (h : id.length = 32) (id' : List UInt8) (h' : id'.length = 32) : ((ltC k f t q id wh x A n c B m d).toList.take 4 ++ (Value.agg (bvs id').toArray).cells.toList ++ (ltC k f t q id wh x A n c B m d).toList.drop (4 + 32)).toArray = ltC k f t q id' wh x A n c B m d := by
  unfold ltC
  rw [List.take_append_of_le_length (by simp), List.drop_append, List.drop_append]
  simp [bvs_len, h, Value.cells]
end
theorem info_lt : (Try.prog.info? 26).map (fun i => i.zero) = some (some (.agg (ltC 0 0 0 0 z32 0 [] none 0 0 none 0 0))) := by unfold ltC; kernel_rfl
theorem z32_eq : z32 = List.replicate 32 0 := by unfold z32; rfl
theorem zeroB_iff {id : List UInt8} (h : id.length = 32) : zeroB id = decide (id = z32) := by
  rw [z32_eq, Bool.eq_iff_iff]
  unfold zeroB
  simp only [List.all_eq_true, beq_iff_eq, decide_eq_true_eq, List.eq_replicate_iff]
  exact ⟨fun h1 => ⟨h, h1⟩, fun h1 => h1.2⟩
theorem kind_class (k : Int) : (hasName k = false ∧ is4 k = false ∧ is8 k = false ∧ hasWhat k = false) ∨ (hasName k = true ∧ is4 k = true ∧ is8 k = false ∧ hasWhat k = false) ∨ (hasName k = true ∧ is4 k = false ∧ is8 k = false ∧ hasWhat k = true) ∨
    (hasName k = true ∧ is4 k = false ∧ is8 k = true ∧ hasWhat k = true) ∨ (hasName k = true ∧ is4 k = false ∧ is8 k = false ∧ hasWhat k = false) := by
  unfold hasName is4 is8 hasWhat
  simp only [decide_eq_true_eq, decide_eq_false_iff_not]
  omega
theorem hasS_nil (k : Int) : (k < 1 ∨ 10 < k) ↔ hasS k = [] := by
  unfold hasS
  constructor
  · intro h; rw [if_neg (by omega), if_neg (by omega), if_neg (by omega), if_neg (by omega), if_neg (by omega)]
  · intro h
    by_cases hk : k < 1 ∨ 10 < k
    · exact hk
    · exfalso
      repeat' split at h
      all_goals first | (cases h; done) | omega
theorem hasS_some {k : Int} (h1 : 1 ≤ k) (h2 : k ≤ 10) : ∃ s0 S, hasS k = s0 :: S := by
  cases h : hasS k with
  | nil => have := (hasS_nil k).2 h; omega
  | cons a b => exact ⟨a, b, rfl⟩
set_option maxRecDepth 100000 in
set_option maxHeartbeats 8000000 in
theorem check_early {F : List SProp} (k f t q : Int) (id : List UInt8) (hid : id.length = 32) (wh : Int) (x : List UInt8) (A : Option Addr) (ps : List Int) (c : Nat) (B : Option Addr) (hs : List Int) (d : Nat) (hx : x.length ≤ 1000000000) (hp : ps.length ≤ 1000000000) (hh : hs.length ≤ 1000000000) (w : World) (hM : Star F w) (h1 : rowE 1 A ps.length (ivs ps) ∈ F) (h2 : rowE 1 B hs.length (ivs hs) ∈ F)
    (rest : 1 ≤ k → k ≤ 10 → addr f = true → addr t = true → 0 ≤ q → q ≤ 4294967296 → ps.length ≤ 8 → hs.length ≤ 8 → x.length ≤ 512 → Calls Try.prog 15 #[.agg (ltC k f t q id wh x A ps.length c B hs.length d)] w fun r w' => r = .returned (.int .i64 (checkL ⟨k, f, t, q, id, wh, x, ps, hs⟩)) ∧ Star F w') :
    Calls Try.prog 15 #[.agg (ltC k f t q id wh x A ps.length c B hs.length d)] w fun r w' => r = .returned (.int .i64 (checkL ⟨k, f, t, q, id, wh, x, ps, hs⟩)) ∧ Star F w' := by
  by_cases cr : 1 ≤ k ∧ k ≤ 10 ∧ addr f = true ∧ addr t = true ∧ 0 ≤ q ∧ q ≤ 4294967296 ∧ ps.length ≤ 8 ∧ hs.length ≤ 8 ∧ x.length ≤ 512
  · obtain ⟨r1, r2, r3, r4, r5, r6, r7, r8, r9⟩ := cr
    exact rest r1 r2 r3 r4 r5 r6 r7 r8 r9
  clear rest
  have CR := Lib.hid cr
  clear cr
  have HI := Lib.hid hid
  have H0 := has_any k
  have hS := hasS_nil k
  have HF := address_any f
  have HT := address_any t
  unfold checkL
  simp only
  by_cases c1 : k < 1 ∨ 10 < k
  · rw [if_pos c1]
    rw [hS.1 c1] at H0
    clear hS c1 HF HT
    replace H0 := Lib.hid H0
    go_enter Try.func15, Try.ntmps15
    go_wp2_with (first | (first | ((with_reducible refine at_box' ?_); (have hM0 := hM; clear hM; refine BigFrame.wpList_want (by rfl) fun K hK => ws_box hM0 rfl rfl (cs := ltC k f t q id wh _ A ps.length c B hs.length d) rfl (fun gx w hM => hK _ _ ?_); clear hM0 hK K)) | fail) | (first | ((with_reducible refine at_load' ?_); (refine BigFrame.wpList_want (by rfl) fun K hK => ws_load1 hM rfl rfl (by (repeat (first | assumption | (with_reducible exact List.mem_cons_self) | apply List.mem_cons_of_mem)); first | done | fail) (by with_reducible (first | exact ltC_0 | exact ltC_1 | exact ltC_2 | exact ltC_3 | exact ltC_36 HI.out | exact ltC_37 HI.out | exact ltC_38 HI.out | exact ltC_39 HI.out)) (by decide +kernel) (hK _ _ ?_); clear hK K)) | fail) | (go_at_call 49; have hM0 := hM; clear hM; (first | (with_reducible refine (starq (H0.out _) hM0).mono ?_) | fail); clear hM0; rintro _ w ⟨rfl, hM⟩))
    all_goals (go_ret; exact ⟨rfl, hM.sel (by repeat (first | (with_reducible exact Sel.refl) | (with_reducible exact Take.head) | (with_reducible apply Take.tail) | (with_reducible apply Sel.cons) | (with_reducible apply Sel.drop)))⟩)
  rw [if_neg c1]
  obtain ⟨s0, S, hs0⟩ := hasS_some (k := k) (by omega) (by omega)
  rw [hs0] at H0
  obtain ⟨k1, k2⟩ : 1 ≤ k ∧ k ≤ 10 := by omega
  clear hs0 hS c1
  replace H0 := Lib.hid H0
  generalize addr f = bf at HF CR ⊢
  generalize addr t = bt at HT CR ⊢
  cases bf with
  | false =>
    rw [if_pos (.inl rfl)]
    clear HT
    replace HF := Lib.hid HF
    go_enter Try.func15, Try.ntmps15
    go_wp2_with (first | (first | ((with_reducible refine at_box' ?_); (have hM0 := hM; clear hM; refine BigFrame.wpList_want (by rfl) fun K hK => ws_box hM0 rfl rfl (cs := ltC k f t q id wh _ A ps.length c B hs.length d) rfl (fun gx w hM => hK _ _ ?_); clear hM0 hK K)) | fail) | (first | ((with_reducible refine at_load' ?_); (refine BigFrame.wpList_want (by rfl) fun K hK => ws_load1 hM rfl rfl (by (repeat (first | assumption | (with_reducible exact List.mem_cons_self) | apply List.mem_cons_of_mem)); first | done | fail) (by with_reducible (first | exact ltC_0 | exact ltC_1 | exact ltC_2 | exact ltC_3 | exact ltC_36 HI.out | exact ltC_37 HI.out | exact ltC_38 HI.out | exact ltC_39 HI.out)) (by decide +kernel) (hK _ _ ?_); clear hK K)) | fail) | (go_at_call 49; have hM0 := hM; clear hM; (first | (with_reducible refine (starq (H0.out _) hM0).mono ?_) | fail); clear hM0; rintro _ w ⟨rfl, hM⟩) | (go_at_call 50; have hM0 := hM; clear hM; (first | (with_reducible refine (starq (HF.out _) hM0).mono ?_) | fail); clear hM0; rintro _ w ⟨rfl, hM⟩))
    all_goals (go_ret; exact ⟨rfl, hM.sel (by repeat (first | (with_reducible exact Sel.refl) | (with_reducible exact Take.head) | (with_reducible apply Take.tail) | (with_reducible apply Sel.cons) | (with_reducible apply Sel.drop)))⟩)
  | true =>
  replace HF := Lib.hid HF
  cases bt with
  | false =>
    rw [if_pos (.inr (.inl rfl))]
    replace HT := Lib.hid HT
    go_enter Try.func15, Try.ntmps15
    go_wp2_with (first | (first | ((with_reducible refine at_box' ?_); (have hM0 := hM; clear hM; refine BigFrame.wpList_want (by rfl) fun K hK => ws_box hM0 rfl rfl (cs := ltC k f t q id wh _ A ps.length c B hs.length d) rfl (fun gx w hM => hK _ _ ?_); clear hM0 hK K)) | fail) | (first | ((with_reducible refine at_load' ?_); (refine BigFrame.wpList_want (by rfl) fun K hK => ws_load1 hM rfl rfl (by (repeat (first | assumption | (with_reducible exact List.mem_cons_self) | apply List.mem_cons_of_mem)); first | done | fail) (by with_reducible (first | exact ltC_0 | exact ltC_1 | exact ltC_2 | exact ltC_3 | exact ltC_36 HI.out | exact ltC_37 HI.out | exact ltC_38 HI.out | exact ltC_39 HI.out)) (by decide +kernel) (hK _ _ ?_); clear hK K)) | fail) | (go_at_call 49; have hM0 := hM; clear hM; (first | (with_reducible refine (starq (H0.out _) hM0).mono ?_) | fail); clear hM0; rintro _ w ⟨rfl, hM⟩) | (go_at_call 50; have hM0 := hM; clear hM; (first | (with_reducible refine (starq (HF.out _) hM0).mono ?_) | fail); clear hM0; rintro _ w ⟨rfl, hM⟩) | (go_at_call 50; have hM0 := hM; clear hM; (first | (with_reducible refine (starq (HT.out _) hM0).mono ?_) | fail); clear hM0; rintro _ w ⟨rfl, hM⟩))
    all_goals (go_ret; exact ⟨rfl, hM.sel (by repeat (first | (with_reducible exact Sel.refl) | (with_reducible exact Take.head) | (with_reducible apply Take.tail) | (with_reducible apply Sel.cons) | (with_reducible apply Sel.drop)))⟩)
  | true =>
  replace HT := Lib.hid HT
  by_cases c2 : q < 0 ∨ 4294967296 < q
  · rw [if_pos (.inr (.inr c2))]
    rcases (by omega : q < 0 ∨ (0 ≤ q ∧ 4294967296 < q)) with c3 | ⟨c3, c4⟩
    · clear c2
      go_enter Try.func15, Try.ntmps15
      go_wp2_with (first | (first | ((with_reducible refine at_box' ?_); (have hM0 := hM; clear hM; refine BigFrame.wpList_want (by rfl) fun K hK => ws_box hM0 rfl rfl (cs := ltC k f t q id wh _ A ps.length c B hs.length d) rfl (fun gx w hM => hK _ _ ?_); clear hM0 hK K)) | fail) | (first | ((with_reducible refine at_load' ?_); (refine BigFrame.wpList_want (by rfl) fun K hK => ws_load1 hM rfl rfl (by (repeat (first | assumption | (with_reducible exact List.mem_cons_self) | apply List.mem_cons_of_mem)); first | done | fail) (by with_reducible (first | exact ltC_0 | exact ltC_1 | exact ltC_2 | exact ltC_3 | exact ltC_36 HI.out | exact ltC_37 HI.out | exact ltC_38 HI.out | exact ltC_39 HI.out)) (by decide +kernel) (hK _ _ ?_); clear hK K)) | fail) | (go_at_call 49; have hM0 := hM; clear hM; (first | (with_reducible refine (starq (H0.out _) hM0).mono ?_) | fail); clear hM0; rintro _ w ⟨rfl, hM⟩) | (go_at_call 50; have hM0 := hM; clear hM; (first | (with_reducible refine (starq (HF.out _) hM0).mono ?_) | fail); clear hM0; rintro _ w ⟨rfl, hM⟩) | (go_at_call 50; have hM0 := hM; clear hM; (first | (with_reducible refine (starq (HT.out _) hM0).mono ?_) | fail); clear hM0; rintro _ w ⟨rfl, hM⟩))
      all_goals (go_ret; exact ⟨rfl, hM.sel (by repeat (first | (with_reducible exact Sel.refl) | (with_reducible exact Take.head) | (with_reducible apply Take.tail) | (with_reducible apply Sel.cons) | (with_reducible apply Sel.drop)))⟩)
    · clear c2
      have b1 : decide (q < 0) = false := by simpa using c3
      have b2 : decide (4294967296 < q) = true := by simpa using c4
      go_enter Try.func15, Try.ntmps15
      go_wp2_with (first | (first | ((with_reducible refine at_box' ?_); (have hM0 := hM; clear hM; refine BigFrame.wpList_want (by rfl) fun K hK => ws_box hM0 rfl rfl (cs := ltC k f t q id wh _ A ps.length c B hs.length d) rfl (fun gx w hM => hK _ _ ?_); clear hM0 hK K)) | fail) | (first | ((with_reducible refine at_load' ?_); (refine BigFrame.wpList_want (by rfl) fun K hK => ws_load1 hM rfl rfl (by (repeat (first | assumption | (with_reducible exact List.mem_cons_self) | apply List.mem_cons_of_mem)); first | done | fail) (by with_reducible (first | exact ltC_0 | exact ltC_1 | exact ltC_2 | exact ltC_3 | exact ltC_36 HI.out | exact ltC_37 HI.out | exact ltC_38 HI.out | exact ltC_39 HI.out)) (by decide +kernel) (hK _ _ ?_); clear hK K)) | fail) | (go_at_call 49; have hM0 := hM; clear hM; (first | (with_reducible refine (starq (H0.out _) hM0).mono ?_) | fail); clear hM0; rintro _ w ⟨rfl, hM⟩) | (go_at_call 50; have hM0 := hM; clear hM; (first | (with_reducible refine (starq (HF.out _) hM0).mono ?_) | fail); clear hM0; rintro _ w ⟨rfl, hM⟩) | (go_at_call 50; have hM0 := hM; clear hM; (first | (with_reducible refine (starq (HT.out _) hM0).mono ?_) | fail); clear hM0; rintro _ w ⟨rfl, hM⟩))
      all_goals (go_ret; exact ⟨rfl, hM.sel (by repeat (first | (with_reducible exact Sel.refl) | (with_reducible exact Take.head) | (with_reducible apply Take.tail) | (with_reducible apply Sel.cons) | (with_reducible apply Sel.drop)))⟩)
  rw [if_neg (by simp; omega)]
  obtain ⟨q0, q1⟩ : 0 ≤ q ∧ q ≤ 4294967296 := by omega
  have b1 : decide (q < 0) = false := by simpa using q0
  have b2 : decide (4294967296 < q) = false := by simpa using q1
  clear c2
  by_cases c3 : 8 < ps.length ∨ 8 < hs.length ∨ 512 < x.length
  · rw [if_pos c3]
    rcases (by omega : 8 < ps.length ∨ (ps.length ≤ 8 ∧ 8 < hs.length) ∨ (ps.length ≤ 8 ∧ hs.length ≤ 8 ∧ 512 < x.length)) with c4 | ⟨c4, c5⟩ | ⟨c4, c5, c6⟩
    · clear c3
      have b3 : decide ((8 : Int) < (ps.length : Int)) = true := by simp; omega
      go_enter Try.func15, Try.ntmps15
      go_wp2_with (first | (first | ((with_reducible refine at_box' ?_); (have hM0 := hM; clear hM; refine BigFrame.wpList_want (by rfl) fun K hK => ws_box hM0 rfl rfl (cs := ltC k f t q id wh _ A ps.length c B hs.length d) rfl (fun gx w hM => hK _ _ ?_); clear hM0 hK K)) | fail) | (first | ((with_reducible refine at_load' ?_); (refine BigFrame.wpList_want (by rfl) fun K hK => ws_load1 hM rfl rfl (by (repeat (first | assumption | (with_reducible exact List.mem_cons_self) | apply List.mem_cons_of_mem)); first | done | fail) (by with_reducible (first | exact ltC_0 | exact ltC_1 | exact ltC_2 | exact ltC_3 | exact ltC_36 HI.out | exact ltC_37 HI.out | exact ltC_38 HI.out | exact ltC_39 HI.out)) (by decide +kernel) (hK _ _ ?_); clear hK K)) | fail) | (go_at_call 49; have hM0 := hM; clear hM; (first | (with_reducible refine (starq (H0.out _) hM0).mono ?_) | fail); clear hM0; rintro _ w ⟨rfl, hM⟩) | (go_at_call 50; have hM0 := hM; clear hM; (first | (with_reducible refine (starq (HF.out _) hM0).mono ?_) | fail); clear hM0; rintro _ w ⟨rfl, hM⟩) | (go_at_call 50; have hM0 := hM; clear hM; (first | (with_reducible refine (starq (HT.out _) hM0).mono ?_) | fail); clear hM0; rintro _ w ⟨rfl, hM⟩))
      all_goals (go_ret; exact ⟨rfl, hM.sel (by repeat (first | (with_reducible exact Sel.refl) | (with_reducible exact Take.head) | (with_reducible apply Take.tail) | (with_reducible apply Sel.cons) | (with_reducible apply Sel.drop)))⟩)
    · clear c3
      have b3 : decide ((8 : Int) < (ps.length : Int)) = false := by simp; omega
      have b4 : decide ((8 : Int) < (hs.length : Int)) = true := by simp; omega
      go_enter Try.func15, Try.ntmps15
      go_wp2_with (first | (first | ((with_reducible refine at_box' ?_); (have hM0 := hM; clear hM; refine BigFrame.wpList_want (by rfl) fun K hK => ws_box hM0 rfl rfl (cs := ltC k f t q id wh _ A ps.length c B hs.length d) rfl (fun gx w hM => hK _ _ ?_); clear hM0 hK K)) | fail) | (first | ((with_reducible refine at_load' ?_); (refine BigFrame.wpList_want (by rfl) fun K hK => ws_load1 hM rfl rfl (by (repeat (first | assumption | (with_reducible exact List.mem_cons_self) | apply List.mem_cons_of_mem)); first | done | fail) (by with_reducible (first | exact ltC_0 | exact ltC_1 | exact ltC_2 | exact ltC_3 | exact ltC_36 HI.out | exact ltC_37 HI.out | exact ltC_38 HI.out | exact ltC_39 HI.out)) (by decide +kernel) (hK _ _ ?_); clear hK K)) | fail) | (go_at_call 49; have hM0 := hM; clear hM; (first | (with_reducible refine (starq (H0.out _) hM0).mono ?_) | fail); clear hM0; rintro _ w ⟨rfl, hM⟩) | (go_at_call 50; have hM0 := hM; clear hM; (first | (with_reducible refine (starq (HF.out _) hM0).mono ?_) | fail); clear hM0; rintro _ w ⟨rfl, hM⟩) | (go_at_call 50; have hM0 := hM; clear hM; (first | (with_reducible refine (starq (HT.out _) hM0).mono ?_) | fail); clear hM0; rintro _ w ⟨rfl, hM⟩))
      all_goals (go_ret; exact ⟨rfl, hM.sel (by repeat (first | (with_reducible exact Sel.refl) | (with_reducible exact Take.head) | (with_reducible apply Take.tail) | (with_reducible apply Sel.cons) | (with_reducible apply Sel.drop)))⟩)
    · clear c3
      have b3 : decide ((8 : Int) < (ps.length : Int)) = false := by simp; omega
      have b4 : decide ((8 : Int) < (hs.length : Int)) = false := by simp; omega
      have b5 : decide ((512 : Int) < (x.length : Int)) = true := by simp; omega
      go_enter Try.func15, Try.ntmps15
      go_wp2_with (first | (first | ((with_reducible refine at_box' ?_); (have hM0 := hM; clear hM; refine BigFrame.wpList_want (by rfl) fun K hK => ws_box hM0 rfl rfl (cs := ltC k f t q id wh _ A ps.length c B hs.length d) rfl (fun gx w hM => hK _ _ ?_); clear hM0 hK K)) | fail) | (first | ((with_reducible refine at_load' ?_); (refine BigFrame.wpList_want (by rfl) fun K hK => ws_load1 hM rfl rfl (by (repeat (first | assumption | (with_reducible exact List.mem_cons_self) | apply List.mem_cons_of_mem)); first | done | fail) (by with_reducible (first | exact ltC_0 | exact ltC_1 | exact ltC_2 | exact ltC_3 | exact ltC_36 HI.out | exact ltC_37 HI.out | exact ltC_38 HI.out | exact ltC_39 HI.out)) (by decide +kernel) (hK _ _ ?_); clear hK K)) | fail) | (go_at_call 49; have hM0 := hM; clear hM; (first | (with_reducible refine (starq (H0.out _) hM0).mono ?_) | fail); clear hM0; rintro _ w ⟨rfl, hM⟩) | (go_at_call 50; have hM0 := hM; clear hM; (first | (with_reducible refine (starq (HF.out _) hM0).mono ?_) | fail); clear hM0; rintro _ w ⟨rfl, hM⟩) | (go_at_call 50; have hM0 := hM; clear hM; (first | (with_reducible refine (starq (HT.out _) hM0).mono ?_) | fail); clear hM0; rintro _ w ⟨rfl, hM⟩))
      all_goals (go_ret; exact ⟨rfl, hM.sel (by repeat (first | (with_reducible exact Sel.refl) | (with_reducible exact Take.head) | (with_reducible apply Take.tail) | (with_reducible apply Sel.cons) | (with_reducible apply Sel.drop)))⟩)
  exact absurd ⟨k1, k2, rfl, rfl, q0, q1, by omega⟩ CR.out
end Go.Proofs.Ytlhedbjjlomniaa
set_option linter.unusedSimpArgs false
set_option linter.unusedVariables false
namespace Go.Proofs.Ytlhedbjjlomniaa
open Go.RowKit
attribute [local go_sem] extract_mid extract_drop bget bsize wrap64_u8 i64_u8 u64_u8 bappend
theorem encNums_one (n : Int) : encNums [n] = encN n := by simp [encNums, encN]
set_option maxRecDepth 100000 in
theorem llist_star {F : List SProp} (l : List Int) (A : Option Addr) (n c : Nat) (hl : ∀ x ∈ l, x ≤ 9223372036854775807) (hn : n ≤ 1000000) (w : World) (hM : Star F w) (hF : rowE 1 A n (ivs l) ∈ F) :
    Calls Try.prog 57 #[.slice A n c] w fun r w' => r = .returned (.string ⟨(encL l).toArray⟩) ∧ Star F w' := by
  have hlen := ivs_row (hM.row hF)
  have HE : Hid (encNums [(n : Int)] ++ encNums l = encL l) := by show _ = _; rw [encL, encNums_one, hlen]
  have q1 := encNums_len [(n : Int)]
  have q2 := encNums_len l
  rw [hlen] at q2
  simp only [List.length_cons, List.length_nil] at q1
  have H1 : ∀ (L : List SProp) (g : Nat) (w : World), Star L w → rowE 1 (some ⟨g, 0, none⟩) 1 (ivs [(n : Int)]) ∈ L → Calls Try.prog 55 #[.slice (some ⟨g, 0, none⟩) 1 1] w fun r w' => r = .returned (.string ⟨(encNums [(n : Int)]).toArray⟩) ∧ Star L w'   := fun L g w hM hx => nums_star [(n : Int)] _ 1 1 (by intro x hx; rw [List.mem_singleton.1 hx]; omega) (by omega) w hM hx
  have H2 : ∀ (L : List SProp) (w : World), Star L w → rowE 1 A n (ivs l) ∈ L → Calls Try.prog 55 #[.slice A n c] w fun r w' => r = .returned (.string ⟨(encNums l).toArray⟩) ∧ Star L w'  := fun L w hM hx => nums_star l A n c hl (by omega) w hM hx
  generalize encNums [(n : Int)] = s1 at H1 HE q1
  generalize encNums l = s2 at H2 HE q2
  clear hlen hl
  replace H1 := Lib.hid H1
  replace H2 := Lib.hid H2
  go_enter Try.func57, Try.ntmps57
  go_wp2_with (first | (first | ((with_reducible refine at_slice' ?_); (have hM0 := hM; clear hM; refine BigFrame.wpList_want (by rfl) fun K hK => ws_slice_row hM0 (n := 1) rfl 3 1 (.int .i64 0) [iv n] Try.underlying24 (by kernel_rfl) rfl (by simp [Value.cells, iv, sv, bv]) (by rfl) (by decide) (cs := ivs [(n : Int)]) (by rfl) (fun g5 w hM => hK _ _ ?_); clear hM0 hK K)) | fail) | (go_at_call 55; have hM0 := hM; clear hM; (first | (with_reducible refine (H1.out _ g5 _ hM0 (by (repeat (first | assumption | (with_reducible exact List.mem_cons_self) | apply List.mem_cons_of_mem)); first | done | fail)).mono ?_) | fail); clear hM0; rintro _ w ⟨rfl, hM⟩) | (go_at_call 55; have hM0 := hM; clear hM; (first | (with_reducible refine (H2.out _ _ hM0 (by (repeat (first | assumption | (with_reducible exact List.mem_cons_self) | apply List.mem_cons_of_mem)); first | done | fail)).mono ?_) | fail); clear hM0; rintro _ w ⟨rfl, hM⟩))
  go_ret
  exact ⟨ret_str HE.out, hM.sel (by repeat (first | (with_reducible exact Sel.refl) | (with_reducible exact Take.head) | (with_reducible apply Take.tail) | (with_reducible apply Sel.cons) | (with_reducible apply Sel.drop)))⟩
set_option maxRecDepth 100000 in
set_option maxHeartbeats 4000000 in
theorem takeList_star {L R : List SProp} {b : Nat} {l u : List UInt8} {e f : Int} {o : List Int} (hm : mList l e = (o, u, f)) (w : World) (hM : Star L w) (hb : Take (balE b l e) L R) :
    Calls Try.prog 63 #[.pointer (some ⟨b, 0, none⟩)] w fun r w' => ∃ A c, r = .returned (.slice A o.length c) ∧ Star (rowE 1 A o.length (ivs o) :: balE b u f :: R) w' := by
  obtain ⟨n, u1, f1, h1⟩ : ∃ n u f, mInt l e 8 = (n, u, f) := ⟨_, _, _, rfl⟩
  have hr := mInt_range l e 8
  rw [h1] at hr
  obtain ⟨N, hN⟩ : ∃ N : Nat, n = N := ⟨n.toNat, by omega⟩
  subst hN
  have hN8 : N ≤ 8 := by have := hr.2; simp only at this; omega
  have H1 := Lib.hid h1
  have h2 : mAdr N [] u1 f1 = (o, u, f) := by unfold mList at hm; rw [h1] at hm; simpa using hm
  have H2 := Lib.hid h2
  clear h1 hm h2 hr
  go_enter Try.func63, Try.ntmps63
  go_wp2_with (first | (go_at_call 60; have hM0 := hM; clear hM; (first | (with_reducible refine (sInt (by omega) H1.out hM0 hb).mono ?_) | fail); clear hM0; rintro _ w ⟨rfl, hM⟩))
  replace hM := hM.nilown 3 1
  go_loopw [3, 4] (fun out i wr => ∃ (j : Nat) (u2 : List UInt8) (f2 : Int) (o2 : List Int) (A : Option Addr) (c n2 : Nat), j + n2 = N ∧ Hid (n2 = o2.length) ∧ i = .int .i64 j ∧ out = .slice A n2 c ∧ Hid (mAdr j o2 u2 f2 = (o, u, f)) ∧ Star (ownE 3 1 A n2 c (ivs o2) :: balE b u2 f2 :: R) wr) (fun _ i _ => (intOf i).toNat)
  case atStart => exact ⟨N, u1, f1, [], none, 0, 0, by omega, rfl, rfl, rfl, H2.out, hM⟩
  case round =>
    clear hM
    obtain ⟨j, u2, f2, o2, A, c, n2, hj, hn2, rfl, rfl, hml, hM⟩ := hrel
    by_cases hgo : 0 < j ∧ f2 = 0
    · obtain ⟨hj0, rfl⟩ := hgo
      obtain ⟨i, rfl⟩ : ∃ i, j = i + 1 := ⟨j - 1, by omega⟩
      obtain ⟨s, u3, f3, hb3⟩ : ∃ s u f, mInt u2 0 63 = (s, u, f) := ⟨_, _, _, rfl⟩
      have HB3 := Lib.hid hb3
      have HN : Hid (mAdr i (o2 ++ [s]) u3 f3 = (o, u, f)) := by
        have := hml.out
        unfold mAdr at this
        rw [if_pos rfl, hb3] at this
        exact this
      clear hb3
      go_wp2_with (first | (go_at_call 73; have hM0 := hM; clear hM; (first | (with_reducible refine (sErr hM0 (by (repeat (first | assumption | (with_reducible exact List.mem_cons_self) | apply List.mem_cons_of_mem)); first | done | fail)).mono ?_) | fail); clear hM0; rintro _ w ⟨rfl, hM⟩) | (go_at_call 60; have hM0 := hM; clear hM; (first | (with_reducible refine (sInt (by omega) HB3.out hM0 (by (repeat (first | (with_reducible exact Take.head) | apply Take.tail)); first | done | fail)).mono ?_) | fail); clear hM0; rintro _ w ⟨rfl, hM⟩) | (first | ((with_reducible refine at_slice' ?_); (have hM0 := hM; clear hM; refine BigFrame.wpList_want (by rfl) fun K hK => ws_slice_row hM0 (n := 1) rfl 3 1 (.int .i64 0) [iv s] Try.underlying24 (by kernel_rfl) rfl (by simp [Value.cells, iv, sv, bv]) (by rfl) (by decide) (cs := ivs [s]) (by rfl) (fun g w hM => hK _ _ ?_); clear hM0 hK K)) | fail) | (first | ((with_reducible refine at_call' ?_); (have hM0 := hM; clear hM; refine BigFrame.wpList_want (by rfl) fun K hK => ws_append hM0 rfl rfl rfl 3 ((.int .i64 0)) 1 8 Try.underlying24 (by kernel_rfl) (by rfl) (by decide) (by (repeat (first | (with_reducible exact Take.head) | apply Take.tail)); first | done | fail) (by first | (apply Star.row hM0; (repeat (first | assumption | (with_reducible exact List.mem_cons_self) | apply List.mem_cons_of_mem)); done) | (apply Star.own hM0; (repeat (first | assumption | (with_reducible exact List.mem_cons_self) | apply List.mem_cons_of_mem)); done) | (apply Star.arr hM0; (focus ((repeat (first | assumption | (with_reducible exact List.mem_cons_self) | apply List.mem_cons_of_mem)); done)); assumption)) (ivs_one [s]) ((by omega)) (fun A1 c1 w hM hnil => hK _ _ ?_); clear hM0 hK K)) | fail))
      go_roundw
      case rel => exact ⟨i, u3, f3, o2 ++ [s], A1, c1, n2 + 1, by omega, (by show _ = _; rw [List.length_append, ← hn2.out]; rfl), by go_num, rfl, HN.out, by rw [ivs_app]; exact hM.sel (by repeat (first | (with_reducible exact Sel.refl) | (with_reducible exact Take.head) | (with_reducible apply Take.tail) | (with_reducible apply Sel.cons) | (with_reducible apply Sel.drop)))⟩
      case measure => simp [intOf]
    · have hend : o2 = o ∧ u2 = u ∧ f2 = f := by
        have := hml.out
        cases j with
        | zero => simpa [mAdr] using this
        | succ i =>
          have hf2 : f2 ≠ 0 := fun h => hgo ⟨by omega, h⟩
          simpa [mAdr, hf2] using this
      obtain ⟨rfl, rfl, rfl⟩ := hend
      by_cases hj0 : j = 0
      · subst hj0
        go_wp2_with (first | (go_at_call 73; have hM0 := hM; clear hM; (first | (with_reducible refine (sErr hM0 (by (repeat (first | assumption | (with_reducible exact List.mem_cons_self) | apply List.mem_cons_of_mem)); first | done | fail)).mono ?_) | fail); clear hM0; rintro _ w ⟨rfl, hM⟩))
        go_ret
        have hno := hn2.out
        rw [← hno]
        exact ⟨A, c, rfl, hM.freeze⟩
      · have hf : f2 ≠ 0 := fun h => hgo ⟨by omega, h⟩
        have hj1 : 0 < j := by omega
        have hfn : (f2 == 0) = false := by simpa using hf
        have hfn2 : (f2 != 0) = true := by simpa using hf
        clear hgo
        go_wp2_with (first | (go_at_call 73; have hM0 := hM; clear hM; (first | (with_reducible refine (sErr hM0 (by (repeat (first | assumption | (with_reducible exact List.mem_cons_self) | apply List.mem_cons_of_mem)); first | done | fail)).mono ?_) | fail); clear hM0; rintro _ w ⟨rfl, hM⟩))
        go_ret
        have hno := hn2.out
        rw [← hno]
        exact ⟨A, c, rfl, hM.freeze⟩
end Go.Proofs.Ytlhedbjjlomniaa
set_option linter.unusedSimpArgs false
set_option linter.unusedVariables false
namespace Go.Proofs.Ytlhedbjjlomniaa
/-- A word, turned to the right. -/
def rotr (x : UInt32) (n : Nat) : UInt32 := UInt32.ofNat (x.toNat / 2 ^ n + x.toNat * 2 ^ (32 - n) % 4294967296)
def shr32 (x : UInt32) (n : Nat) : UInt32 := UInt32.ofNat (x.toNat / 2 ^ n)
def K64 : List UInt32 := [
  0x428a2f98, 0x71374491, 0xb5c0fbcf, 0xe9b5dba5, 0x3956c25b, 0x59f111f1, 0x923f82a4, 0xab1c5ed5,
  0xd807aa98, 0x12835b01, 0x243185be, 0x550c7dc3, 0x72be5d74, 0x80deb1fe, 0x9bdc06a7, 0xc19bf174,
  0xe49b69c1, 0xefbe4786, 0x0fc19dc6, 0x240ca1cc, 0x2de92c6f, 0x4a7484aa, 0x5cb0a9dc, 0x76f988da,
  0x983e5152, 0xa831c66d, 0xb00327c8, 0xbf597fc7, 0xc6e00bf3, 0xd5a79147, 0x06ca6351, 0x14292967,
  0x27b70a85, 0x2e1b2138, 0x4d2c6dfc, 0x53380d13, 0x650a7354, 0x766a0abb, 0x81c2c92e, 0x92722c85,
  0xa2bfe8a1, 0xa81a664b, 0xc24b8b70, 0xc76c51a3, 0xd192e819, 0xd6990624, 0xf40e3585, 0x106aa070,
  0x19a4c116, 0x1e376c08, 0x2748774c, 0x34b0bcb5, 0x391c0cb3, 0x4ed8aa4a, 0x5b9cca4f, 0x682e6ff3,
  0x748f82ee, 0x78a5636f, 0x84c87814, 0x8cc70208, 0x90befffa, 0xa4506ceb, 0xbef9a3f7, 0xc67178f2]
def s0 (x : UInt32) : UInt32 := rotr x 7 ^^^ rotr x 18 ^^^ shr32 x 3
def s1 (x : UInt32) : UInt32 := rotr x 17 ^^^ rotr x 19 ^^^ shr32 x 10
def S1 (e : UInt32) : UInt32 := rotr e 6 ^^^ rotr e 11 ^^^ rotr e 25
def S0 (a : UInt32) : UInt32 := rotr a 2 ^^^ rotr a 13 ^^^ rotr a 22
def chf (e f g : UInt32) : UInt32 := (e &&& f) ||| (~~~e &&& g)
def maj (a b c : UInt32) : UInt32 := (a &&& (b ||| c)) ||| (b &&& c)
/-- Four bytes as a word. -/
def word4 (a b c d : UInt8) : UInt32 := UInt32.ofNat (a.toNat * 16777216 + b.toNat * 65536 + c.toNat * 256 + d.toNat)
/-- The next word of the schedule, of those so far. -/
def nextW (l : List UInt32) : UInt32 := l.getD (l.length - 16) 0 + l.getD (l.length - 7) 0 + s0 (l.getD (l.length - 15) 0) + s1 (l.getD (l.length - 2) 0)
def wordAt (b : List UInt8) (i : Nat) : UInt32 := word4 (b.getD (4 * i) 0) (b.getD (4 * i + 1) 0) (b.getD (4 * i + 2) 0) (b.getD (4 * i + 3) 0)
/-- The first k words of a block's schedule. -/
def sched (b : List UInt8) : Nat → List UInt32
  | 0 => []
  | k + 1 => sched b k ++ [if k < 16 then wordAt b k else nextW (sched b k)]
/-- Eight words. -/
structure W8 where
  (a b c d e f g h : UInt32)
def W8.list (s : W8) : List UInt32 := [s.a, s.b, s.c, s.d, s.e, s.f, s.g, s.h]
def rnd (k w : UInt32) (s : W8) : W8 :=
  let t := s.h + k + w + S1 s.e + chf s.e s.f s.g
  let u := S0 s.a + maj s.a s.b s.c
  ⟨t + u, s.a, s.b, s.c, s.d + t, s.e, s.f, s.g⟩
/-- The first n rounds. -/
def rnds (ws : List UInt32) (s : W8) : Nat → W8
  | 0 => s
  | n + 1 => rnd (K64.getD n 0) (ws.getD n 0) (rnds ws s n)
def W8.add (s t : W8) : W8 := ⟨s.a + t.a, s.b + t.b, s.c + t.c, s.d + t.d, s.e + t.e, s.f + t.f, s.g + t.g, s.h + t.h⟩
/-- The state behind a block. -/
def mix (s : W8) (b : List UInt8) : W8 := s.add (rnds (sched b 64) s 64)
/-- The state behind n whole blocks. -/
def mixN (s : W8) : Nat → List UInt8 → W8
  | 0, _ => s
  | n + 1, l => mixN (mix s (l.take 64)) n (l.drop 64)
/-- A word's bytes. -/
def wbytes (x : UInt32) : List UInt8 := [UInt8.ofNat (x.toNat / 16777216), UInt8.ofNat (x.toNat / 65536), UInt8.ofNat (x.toNat / 256), UInt8.ofNat x.toNat]
def W8.bytes (s : W8) : List UInt8 := s.list.flatMap wbytes
theorem W8.bytes_len (s : W8) : s.bytes.length = 32 := by simp [W8.bytes, W8.list, wbytes]
/-- How many zeros follow the byte 128. -/
def zerosN (n : Nat) : Nat := (119 - n % 64) % 64
/-- A length's eight bytes, in bits. -/
def lenBytes (n : Nat) : List UInt8 := (List.range 8).map fun i => UInt8.ofNat (n * 8 / 256 ^ (7 - i))
def pad (l : List UInt8) : List UInt8 := l ++ (128 :: List.replicate (zerosN l.length) 0) ++ lenBytes l.length
end Go.Proofs.Ytlhedbjjlomniaa
set_option linter.unusedSimpArgs false
set_option linter.unusedVariables false
namespace Go.Proofs.Ytlhedbjjlomniaa
open Go.RowKit
attribute [local go_sem] extract_mid extract_drop bget bsize wrap64_u8 i64_u8 u64_u8 bappend
/-- A word as the number that a slot holds. -/
def w32 (x : UInt32) : Int := (x.toNat : Int)
theorem w32_lt (x : UInt32) : 0 ≤ w32 x ∧ w32 x ≤ 4294967295 := by have := x.toNat_lt; unfold w32; omega
theorem u32_add (a b : UInt32) : IntKind.u32.wrap (w32 a + w32 b) = w32 (a + b) := by
  unfold w32
  rw [IntKind.wrap_u32, UInt32.toNat_add]
  omega
theorem u32_xor_w (a b : UInt32) : bits BinOp.xor IntKind.u32 (w32 a) (w32 b) = w32 (a ^^^ b) := by
  unfold w32
  have h1 := a.toNat_lt; have h2 := b.toNat_lt
  rw [u32_xor_nat _ _ (by omega) (by omega), UInt32.toNat_xor]
theorem u32_and_w (a b : UInt32) : bits BinOp.and IntKind.u32 (w32 a) (w32 b) = w32 (a &&& b) := by
  unfold w32
  have h1 := a.toNat_lt; have h2 := b.toNat_lt
  rw [u32_and_nat _ _ (by omega) (by omega), UInt32.toNat_and]
theorem u32_or_w (a b : UInt32) : bits BinOp.or IntKind.u32 (w32 a) (w32 b) = w32 (a ||| b) := by
  unfold w32
  have h1 := a.toNat_lt; have h2 := b.toNat_lt
  rw [u32_or_nat _ _ (by omega) (by omega), UInt32.toNat_or]
theorem w32_shr (x : UInt32) (n : Nat) (k : Int) (hk : k = 2 ^ n) : w32 x / k = w32 (shr32 x n) := by
  have h1 := x.toNat_lt
  unfold w32 shr32
  have h2 : x.toNat / 2 ^ n ≤ x.toNat := Nat.div_le_self _ _
  rw [UInt32.toNat_ofNat_of_lt' (by simpa [UInt32.size] using (by omega : x.toNat / 2 ^ n < 4294967296)), hk]
  simp
theorem w32_shr3 (x : UInt32) : w32 x / 8 = w32 (shr32 x 3) := w32_shr x 3 8 rfl
theorem w32_shr10 (x : UInt32) : w32 x / 1024 = w32 (shr32 x 10) := w32_shr x 10 1024 rfl
theorem w32_quo3 (x : UInt32) : IntKind.u32.wrap ((w32 x).tdiv 8) = w32 (shr32 x 3) := by rw [IntWalk.u32_quo _ _ ⟨(w32_lt x).1, (w32_lt x).2, by omega⟩, w32_shr3]
theorem w32_quo10 (x : UInt32) : IntKind.u32.wrap ((w32 x).tdiv 1024) = w32 (shr32 x 10) := by rw [IntWalk.u32_quo _ _ ⟨(w32_lt x).1, (w32_lt x).2, by omega⟩, w32_shr10]
theorem u32_add' (a b : UInt32) : (w32 a + w32 b) % 4294967296 = w32 (a + b) := by rw [← u32_add, IntKind.wrap_u32]
theorem u8m32 (c : UInt8) : (c.toNat : Int) % 4294967296 = c.toNat := by have := c.toNat_lt; omega
end Go.Proofs.Ytlhedbjjlomniaa
set_option linter.unusedSimpArgs false
set_option linter.unusedVariables false
namespace Go.Proofs.Ytlhedbjjlomniaa
open Go.RowKit
attribute [local go_sem] extract_mid extract_drop bget bsize wrap64_u8 i64_u8 u64_u8 bappend
attribute [local go_sem] u8m32 u32_add u32_add' u32_xor_w u32_and_w u32_or_w w32_shr3 w32_shr10
def part (l : List UInt8) : UInt32 := UInt32.ofNat (numOf l)
end Go.Proofs.Ytlhedbjjlomniaa
set_option linter.unusedSimpArgs false
set_option linter.unusedVariables false
namespace Go.Proofs.Ytlhedbjjlomniaa
open Go.RowKit
attribute [local go_sem] extract_mid extract_drop bget bsize wrap64_u8 i64_u8 u64_u8 bappend
attribute [local go_sem] u8m32 u32_add u32_add' u32_xor_w u32_and_w u32_or_w
theorem u32_not (x : UInt32) : bits BinOp.xor IntKind.u32 IntKind.u32.max (w32 x) = w32 (~~~x) := by
  have h : IntKind.u32.max = w32 4294967295 := by decide
  rw [h, u32_xor_w]
  refine congrArg w32 (UInt32.toBitVec_inj.1 ?_)
  rw [UInt32.toBitVec_xor, UInt32.toBitVec_not]
  exact BitVec.allOnes_xor
attribute [local go_sem] u32_not
attribute [local irreducible] sched rnds mix
end Go.Proofs.Ytlhedbjjlomniaa
set_option linter.unusedSimpArgs false
set_option linter.unusedVariables false
namespace Go.Proofs.Ytlhedbjjlomniaa
open Go.RowKit
attribute [local go_sem] extract_mid extract_drop bget bsize wrap64_u8 i64_u8 u64_u8 bappend
theorem and_i64 (n : Int) (m : Nat) (hm : m ≤ 62) : bits .and .i64 n (2 ^ m - 1 : Nat) = n % ((2 ^ m : Nat) : Int) := by
  have h62 : 2 ^ m ≤ 2 ^ 62 := Nat.pow_le_pow_right (by decide) hm
  have h0 : 0 < 2 ^ m := Nat.pow_pos (by decide)
  have hc : (BitVec.ofInt 64 ((2 ^ m - 1 : Nat) : Int)).toNat = 2 ^ m - 1 := by
    rw [BitVec.ofInt_natCast, BitVec.toNat_ofNat]; exact Nat.mod_eq_of_lt (by omega)
  have key : (BitVec.ofInt 64 n &&& BitVec.ofInt 64 ((2 ^ m - 1 : Nat) : Int)).toNat = (n % ((2 ^ 64 : Nat) : Int)).toNat % 2 ^ m := by
    rw [BitVec.toNat_and, BitVec.toNat_ofInt, hc, Nat.and_two_pow_sub_one_eq_mod]
  show IntKind.i64.wrap ((BitVec.ofInt 64 n &&& BitVec.ofInt 64 ((2 ^ m - 1 : Nat) : Int)).toNat : Nat) = _
  rw [key, IntKind.wrap_i64]
  have hd : ((2 ^ m : Nat) : Int) ∣ ((2 ^ 64 : Nat) : Int) := by
    rw [Int.natCast_dvd_natCast]; exact Nat.pow_dvd_pow 2 (by omega)
  have e1 : (((n % ((2 ^ 64 : Nat) : Int)).toNat % 2 ^ m : Nat) : Int) = n % ((2 ^ m : Nat) : Int) := by
    rw [Int.natCast_emod, Int.toNat_of_nonneg (Int.emod_nonneg _ (by decide)), Int.emod_emod_of_dvd _ hd]
  rw [e1]
  have h1 := Int.emod_nonneg n (show ((2 ^ m : Nat) : Int) ≠ 0 by omega)
  have h2 := Int.emod_lt_of_pos n (show (0 : Int) < ((2 ^ m : Nat) : Int) by omega)
  omega
theorem and31 (n : Int) : bits .and .i64 n 31 = n % 32 := and_i64 n 5 (by decide)
theorem and0 (n : Int) : bits .and .i64 n 0 = 0 := by have := and_i64 n 0 (by decide); simpa using this
theorem and1 (n : Int) : bits .and .i64 n 1 = n % 2 := and_i64 n 1 (by decide)
theorem and3 (n : Int) : bits .and .i64 n 3 = n % 4 := and_i64 n 2 (by decide)
theorem and7 (n : Int) : bits .and .i64 n 7 = n % 8 := and_i64 n 3 (by decide)
theorem and15' (n : Int) : bits .and .i64 n 15 = n % 16 := and_i64 n 4 (by decide)
attribute [local go_sem] and31 and0 and1 and3 and7 and15'
end Go.Proofs.Ytlhedbjjlomniaa
set_option linter.unusedSimpArgs false
set_option linter.unusedVariables false
namespace Go.Proofs.Ytlhedbjjlomniaa
open Go.RowKit
attribute [local go_sem] extract_mid extract_drop bget bsize wrap64_u8 i64_u8 u64_u8 bappend
theorem bxor8 (x y : UInt8) : bits BinOp.xor IntKind.u8 (x.toNat : Int) (y.toNat : Int) = ((x ^^^ y).toNat : Int) := by
  have h1 := x.toNat_lt
  have h2 := y.toNat_lt
  rw [u8_xor_nat x.toNat y.toNat (by omega) (by omega), UInt8.toNat_xor]
attribute [local go_sem] bxor8
set_option maxRecDepth 100000 in
theorem obytes_star {F : List SProp} (l : List UInt8) (hl : l.length = 32) (w : World) (hM : Star F w) :
    Calls Try.prog 36 #[.agg (bvs l).toArray] w fun r w' => r = .returned (.string ⟨l.toArray⟩) ∧ Star F w' := by
  go_enter Try.func36, Try.ntmps36
  go_wp2_with (first | (first | (have hM0 := hM; clear hM; refine BigFrame.wpList_want (by rfl) fun K hK => ws_box hM0 rfl rfl (cs := (bvs l).toArray) rfl (fun g1 w hM => hK _ _ ?_); clear hM0 hK K) | fail) | (first | (refine BigFrame.wpList_want (by rfl) fun K hK => ws_string (l := l) rfl 5 Try.underlying80 Try.underlying9 Try.underlying5 rfl (by first | (apply Star.row hM; (repeat (first | assumption | (with_reducible exact List.mem_cons_self) | apply List.mem_cons_of_mem)); done) | (apply Star.own hM; (repeat (first | assumption | (with_reducible exact List.mem_cons_self) | apply List.mem_cons_of_mem)); done) | (apply Star.arr hM; (focus ((repeat (first | assumption | (with_reducible exact List.mem_cons_self) | apply List.mem_cons_of_mem)); done)); assumption)) (hK _ _ ?_); clear hK K) | fail))
  go_ret
  exact ⟨rfl, hM.sel (by repeat (first | (with_reducible exact Sel.refl) | (with_reducible exact Take.head) | (with_reducible apply Take.tail) | (with_reducible apply Sel.cons) | (with_reducible apply Sel.drop)))⟩
end Go.Proofs.Ytlhedbjjlomniaa
set_option linter.unusedSimpArgs false
set_option linter.unusedVariables false
namespace Go.Proofs.Ytlhedbjjlomniaa
open Go.RowKit
attribute [local go_sem] extract_mid extract_drop bget bsize wrap64_u8 i64_u8 u64_u8 bappend
abbrev i63 (x : Int) : Prop := x ≤ 9223372036854775807
theorem encNums4 (k f t q : Int) : encNums [k, f, t, q] = encN k ++ (encN f ++ (encN t ++ encN q)) := by simp [encNums, encN]
set_option maxRecDepth 100000 in
set_option maxHeartbeats 8000000 in
theorem lbytes_star {F : List SProp} (k f t q : Int) (id : List UInt8) (hid : id.length = 32) (wh : Int) (x : List UInt8) (A : Option Addr) (ps : List Int) (np c : Nat) (B : Option Addr) (hs : List Int) (mp d : Nat)
    (bk : i63 k) (bf : i63 f) (bt : i63 t) (bq : i63 q) (bw : i63 wh) (bp : ∀ n ∈ ps, i63 n) (bh : ∀ n ∈ hs, i63 n) (hx : x.length ≤ 1000000000) (hp : np ≤ 1000000) (hh : mp ≤ 1000000) (w : World) (hM : Star F w) (h1 : rowE 1 A np (ivs ps) ∈ F) (h2 : rowE 1 B mp (ivs hs) ∈ F) :
    Calls Try.prog 18 #[.agg (ltC k f t q id wh x A np c B mp d)] w fun r w' => r = .returned (.string ⟨(bytesL ⟨k, f, t, q, id, wh, x, ps, hs⟩).toArray⟩) ∧ Star F w' := by
  have HI := Lib.hid hid
  have e1 := ivs_row (hM.row h1)
  have e2 := ivs_row (hM.row h2)
  have HA : ∀ (L : List SProp) (g : Nat) (w : World), Star L w → rowE 1 (some ⟨g, 0, none⟩) 4 (ivs [k, f, t, q]) ∈ L → Calls Try.prog 55 #[.slice (some ⟨g, 0, none⟩) 4 4] w fun r w' => r = .returned (.string ⟨(encNums [k, f, t, q]).toArray⟩) ∧ Star L w' := fun L g w hM hx => nums_star _ _ 4 4 (by intro x hx; simp only [List.mem_cons, List.not_mem_nil, or_false] at hx; rcases hx with rfl | rfl | rfl | rfl <;> assumption) (by omega) w hM hx
  have HB : ∀ (L : List SProp) (g : Nat) (w : World), Star L w → rowE 1 (some ⟨g, 0, none⟩) 1 (ivs [wh]) ∈ L → Calls Try.prog 55 #[.slice (some ⟨g, 0, none⟩) 1 1] w fun r w' => r = .returned (.string ⟨(encNums [wh]).toArray⟩) ∧ Star L w' := fun L g w hM hx => nums_star _ _ 1 1 (by intro x hx; rw [List.mem_singleton.1 hx]; assumption) (by omega) w hM hx
  have HS := encStr_any x (by omega)
  have HP : ∀ (L : List SProp) (w : World), Star L w → rowE 1 A np (ivs ps) ∈ L → Calls Try.prog 57 #[.slice A np c] w fun r w' => r = .returned (.string ⟨(encL ps).toArray⟩) ∧ Star L w' := fun L w hM hx => llist_star ps A np c bp (by omega) w hM hx
  have HH : ∀ (L : List SProp) (w : World), Star L w → rowE 1 B mp (ivs hs) ∈ L → Calls Try.prog 57 #[.slice B mp d] w fun r w' => r = .returned (.string ⟨(encL hs).toArray⟩) ∧ Star L w' := fun L w hM hx => llist_star hs B mp d bh (by omega) w hM hx
  have q1 := encNums_len [k, f, t, q]
  have q2 := encNums_len [wh]
  have q3 := encStr_len x
  have q4 : (encL ps).length ≤ 9 + 9 * np := by have := encN_len ps.length; have := encNums_len ps; rw [encL, List.length_append]; omega
  have q5 : (encL hs).length ≤ 9 + 9 * mp := by have := encN_len hs.length; have := encNums_len hs; rw [encL, List.length_append]; omega
  simp only [List.length_cons, List.length_nil] at q1 q2
  have hcl := kind_class k
  have HN := part_n k
  have H4 := part_l k
  have H8 := part_t k
  have HW := part_w k
  have HE : bytesL ⟨k, f, t, q, id, wh, x, ps, hs⟩ = [99, 118] ++ (encNums [k, f, t, q] ++ ((if hasName k = true then id else []) ++ ((if hasWhat k = true then encNums [wh] else []) ++ ((if is8 k = true then encStr x else []) ++ ((if is4 k = true then encL ps else []) ++ (if is4 k = true then encL hs else [])))))) := by
    have a4 : (k = 4) = (is4 k = true) := by simp [is4]
    have a8 : (k = 8) = (is8 k = true) := by simp [is8]
    unfold bytesL
    simp only [a4, a8]
    rw [encNums4, encNums_one]
    simp only [List.append_assoc]
  rw [HE]
  clear HE e1 e2 bk bf bt bq bw bp bh
  generalize encNums [k, f, t, q] = s1 at HA q1 ⊢
  generalize encNums [wh] = s2 at HB q2 ⊢
  generalize encStr x = s3 at HS q3 ⊢
  generalize encL ps = s4 at HP q4 ⊢
  generalize encL hs = s5 at HH q5 ⊢
  generalize hasName k = bn at HN hcl ⊢
  generalize hasWhat k = bw at HW hcl ⊢
  generalize is4 k = b4 at H4 hcl ⊢
  generalize is8 k = b8 at H8 hcl ⊢
  replace HA := Lib.hid HA
  replace HB := Lib.hid HB
  replace HS := Lib.hid HS
  replace HP := Lib.hid HP
  replace HH := Lib.hid HH
  have hidL : id.length ≤ 32 := by omega
  clear hid
  rcases hcl with ⟨rfl, rfl, rfl, rfl⟩ | ⟨rfl, rfl, rfl, rfl⟩ | ⟨rfl, rfl, rfl, rfl⟩ | ⟨rfl, rfl, rfl, rfl⟩ | ⟨rfl, rfl, rfl, rfl⟩
  all_goals
    replace HN := Lib.hid HN
    replace H4 := Lib.hid H4
    replace H8 := Lib.hid H8
    replace HW := Lib.hid HW
    obtain ⟨V, hV⟩ : ∃ V : List UInt8, V = V := ⟨[], rfl⟩
    clear hV V
    simp only [if_true, List.nil_append, List.append_nil, Bool.false_eq_true, if_false]
  · clear HB HS HP HH q2 q3 q4 q5
    go_enter Try.func18, Try.ntmps18
    go_wp2_with (first | (first | ((with_reducible refine at_box' ?_); (have hM0 := hM; clear hM; refine BigFrame.wpList_want (by rfl) fun K hK => ws_box hM0 rfl rfl (cs := ltC k f t q id wh x A np c B mp d) rfl (fun gx w hM => hK _ _ ?_); clear hM0 hK K)) | fail) | (first | ((with_reducible refine at_load' ?_); (refine BigFrame.wpList_want (by rfl) fun K hK => ws_load1 hM rfl rfl (by (repeat (first | assumption | (with_reducible exact List.mem_cons_self) | apply List.mem_cons_of_mem)); first | done | fail) (by with_reducible (first | exact ltC_0 | exact ltC_1 | exact ltC_2 | exact ltC_3 | exact ltC_36 HI.out | exact ltC_37 HI.out | exact ltC_38 HI.out | exact ltC_39 HI.out)) (by decide +kernel) (hK _ _ ?_); clear hK K)) | fail) | ((with_reducible refine at_load' ?_); refine BigFrame.wpList_want (by rfl) fun K hK => ws_load_mid hM rfl rfl (by (repeat (first | assumption | (with_reducible exact List.mem_cons_self) | apply List.mem_cons_of_mem)); first | done | fail) (bvs id) (fun j v hj => ltC_id j v hj) (n := 32) (by simp [bvs_len, HI.out]) (by decide +kernel) (hK _ _ ?_); clear hK K) | (go_at_call 51; have hM0 := hM; clear hM; (first | (with_reducible refine (starq (HN.out _) hM0).mono ?_) | fail); clear hM0; rintro _ w ⟨rfl, hM⟩) | (go_at_call 51; have hM0 := hM; clear hM; (first | (with_reducible refine (starq (H4.out _) hM0).mono ?_) | fail); clear hM0; rintro _ w ⟨rfl, hM⟩) | (go_at_call 51; have hM0 := hM; clear hM; (first | (with_reducible refine (starq (H8.out _) hM0).mono ?_) | fail); clear hM0; rintro _ w ⟨rfl, hM⟩) | (go_at_call 51; have hM0 := hM; clear hM; (first | (with_reducible refine (starq (HW.out _) hM0).mono ?_) | fail); clear hM0; rintro _ w ⟨rfl, hM⟩) | (first | ((with_reducible refine at_slice' ?_); (have hM0 := hM; clear hM; refine BigFrame.wpList_want (by rfl) fun K hK => ws_slice_row hM0 (n := 4) rfl 3 1 (.int .i64 0) [iv k, iv f, iv t, iv q] Try.underlying24 (by kernel_rfl) rfl (by simp [Value.cells, iv, sv, bv]) (by rfl) (by decide) (cs := ivs [k, f, t, q]) (by rfl) (fun g12 w hM => hK _ _ ?_); clear hM0 hK K)) | fail) | (go_at_call 55; have hM0 := hM; clear hM; (first | (with_reducible refine (HA.out _ g12 _ hM0 (by (repeat (first | assumption | (with_reducible exact List.mem_cons_self) | apply List.mem_cons_of_mem)); first | done | fail)).mono ?_) | fail); clear hM0; rintro _ w ⟨rfl, hM⟩) | (go_at_call 36; have hM0 := hM; clear hM; (first | (with_reducible refine (obytes_star id HI.out _ hM0).mono ?_) | fail); clear hM0; rintro _ w ⟨rfl, hM⟩))
    go_ret
    exact ⟨ret_str (by simp), hM.sel (by repeat (first | (with_reducible exact Sel.refl) | (with_reducible exact Take.head) | (with_reducible apply Take.tail) | (with_reducible apply Sel.cons) | (with_reducible apply Sel.drop)))⟩
  · clear HB HS q2 q3
    have u1 : ¬ (9223372036854775807 < s4.length + s5.length) := by omega
    have u2 : ¬ (9223372036854775807 < s1.length + id.length + 1 + 1 + (s4.length + s5.length)) := by omega
    have u3 : ¬ (9223372036854775807 < s1.length + id.length + (s4.length + s5.length) + 1 + 1) := by omega
    go_enter Try.func18, Try.ntmps18
    go_wp2_with (first | (first | ((with_reducible refine at_box' ?_); (have hM0 := hM; clear hM; refine BigFrame.wpList_want (by rfl) fun K hK => ws_box hM0 rfl rfl (cs := ltC k f t q id wh x A np c B mp d) rfl (fun gx w hM => hK _ _ ?_); clear hM0 hK K)) | fail) | (first | ((with_reducible refine at_load' ?_); (refine BigFrame.wpList_want (by rfl) fun K hK => ws_load1 hM rfl rfl (by (repeat (first | assumption | (with_reducible exact List.mem_cons_self) | apply List.mem_cons_of_mem)); first | done | fail) (by with_reducible (first | exact ltC_0 | exact ltC_1 | exact ltC_2 | exact ltC_3 | exact ltC_36 HI.out | exact ltC_37 HI.out | exact ltC_38 HI.out | exact ltC_39 HI.out)) (by decide +kernel) (hK _ _ ?_); clear hK K)) | fail) | ((with_reducible refine at_load' ?_); refine BigFrame.wpList_want (by rfl) fun K hK => ws_load_mid hM rfl rfl (by (repeat (first | assumption | (with_reducible exact List.mem_cons_self) | apply List.mem_cons_of_mem)); first | done | fail) (bvs id) (fun j v hj => ltC_id j v hj) (n := 32) (by simp [bvs_len, HI.out]) (by decide +kernel) (hK _ _ ?_); clear hK K) | (go_at_call 51; have hM0 := hM; clear hM; (first | (with_reducible refine (starq (HN.out _) hM0).mono ?_) | fail); clear hM0; rintro _ w ⟨rfl, hM⟩) | (go_at_call 51; have hM0 := hM; clear hM; (first | (with_reducible refine (starq (H4.out _) hM0).mono ?_) | fail); clear hM0; rintro _ w ⟨rfl, hM⟩) | (go_at_call 51; have hM0 := hM; clear hM; (first | (with_reducible refine (starq (H8.out _) hM0).mono ?_) | fail); clear hM0; rintro _ w ⟨rfl, hM⟩) | (go_at_call 51; have hM0 := hM; clear hM; (first | (with_reducible refine (starq (HW.out _) hM0).mono ?_) | fail); clear hM0; rintro _ w ⟨rfl, hM⟩) | (first | ((with_reducible refine at_slice' ?_); (have hM0 := hM; clear hM; refine BigFrame.wpList_want (by rfl) fun K hK => ws_slice_row hM0 (n := 4) rfl 3 1 (.int .i64 0) [iv k, iv f, iv t, iv q] Try.underlying24 (by kernel_rfl) rfl (by simp [Value.cells, iv, sv, bv]) (by rfl) (by decide) (cs := ivs [k, f, t, q]) (by rfl) (fun g12 w hM => hK _ _ ?_); clear hM0 hK K)) | fail) | (go_at_call 55; have hM0 := hM; clear hM; (first | (with_reducible refine (HA.out _ g12 _ hM0 (by (repeat (first | assumption | (with_reducible exact List.mem_cons_self) | apply List.mem_cons_of_mem)); first | done | fail)).mono ?_) | fail); clear hM0; rintro _ w ⟨rfl, hM⟩) | (go_at_call 36; have hM0 := hM; clear hM; (first | (with_reducible refine (obytes_star id HI.out _ hM0).mono ?_) | fail); clear hM0; rintro _ w ⟨rfl, hM⟩))
    (refine region_RS ([cellsE gx 26 (ltC k f t q id wh x A np c B mp d), rowE 1 A np (ivs ps), rowE 1 B mp (ivs hs)]) [] (by kernel_rfl) hM ?_; clear hM; change RS _ _ _ _ _ _ 10 (Array.replicate 10 false) _ _; refine RS_take (i := 0) rfl (by decide +kernel) (fun _ _ _ h => h) (by first | (intro x hx; (repeat (first | exact hx | apply List.mem_cons_of_mem)); done) | ((repeat (refine List.forall_mem_cons.2 ⟨(by (repeat (first | assumption | (with_reducible exact List.mem_cons_self) | apply List.mem_cons_of_mem)); first | done | fail), ?_⟩)); intro x hx; first | (cases hx; done) | ((repeat (first | exact hx | apply List.mem_cons_of_mem)); done))) (stab_pure (by rfl) (fun w => (by go_simp; try with_reducible rfl))) ?_; simp only [Act.put, List.setIfInBounds_toArray, List.set_cons_zero, List.set_cons_succ]; refine RS_take (i := 1) rfl (by decide +kernel) (fun _ _ _ h => h) (by first | (intro x hx; (repeat (first | exact hx | apply List.mem_cons_of_mem)); done) | ((repeat (refine List.forall_mem_cons.2 ⟨(by (repeat (first | assumption | (with_reducible exact List.mem_cons_self) | apply List.mem_cons_of_mem)); first | done | fail), ?_⟩)); intro x hx; first | (cases hx; done) | ((repeat (first | exact hx | apply List.mem_cons_of_mem)); done))) (stab_pure (by rfl) (fun w => (by go_simp; try with_reducible rfl))) ?_; simp only [Act.put, List.setIfInBounds_toArray, List.set_cons_zero, List.set_cons_succ]; refine RS_take (i := 2) rfl (by decide +kernel) (fun _ _ _ h => h) (by first | (intro x hx; (repeat (first | exact hx | apply List.mem_cons_of_mem)); done) | ((repeat (refine List.forall_mem_cons.2 ⟨(by (repeat (first | assumption | (with_reducible exact List.mem_cons_self) | apply List.mem_cons_of_mem)); first | done | fail), ?_⟩)); intro x hx; first | (cases hx; done) | ((repeat (first | exact hx | apply List.mem_cons_of_mem)); done))) (stab_read (by rfl) (fun L w hL hM => (ex_load1 hM rfl rfl (hL _ (by (repeat (first | assumption | (with_reducible exact List.mem_cons_self) | apply List.mem_cons_of_mem)); first | done | fail)) (ltC_38 HI.out) (by decide +kernel)))) ?_; simp only [Act.put, List.setIfInBounds_toArray, List.set_cons_zero, List.set_cons_succ]; refine RS_take (i := 3) rfl (by decide +kernel) (fun _ _ _ h => h) (by first | (intro x hx; (repeat (first | exact hx | apply List.mem_cons_of_mem)); done) | ((repeat (refine List.forall_mem_cons.2 ⟨(by (repeat (first | assumption | (with_reducible exact List.mem_cons_self) | apply List.mem_cons_of_mem)); first | done | fail), ?_⟩)); intro x hx; first | (cases hx; done) | ((repeat (first | exact hx | apply List.mem_cons_of_mem)); done))) (stab_call (by rfl) (fun w => (by go_simp; try with_reducible rfl)) (fun L w hL hM => (HP.out _ w hM (hL _ (by (repeat (first | assumption | (with_reducible exact List.mem_cons_self) | apply List.mem_cons_of_mem)); first | done | fail))))) ?_; simp only [Act.put, List.setIfInBounds_toArray, List.set_cons_zero, List.set_cons_succ]; refine RS_take (i := 4) rfl (by decide +kernel) (fun _ _ _ h => h) (by first | (intro x hx; (repeat (first | exact hx | apply List.mem_cons_of_mem)); done) | ((repeat (refine List.forall_mem_cons.2 ⟨(by (repeat (first | assumption | (with_reducible exact List.mem_cons_self) | apply List.mem_cons_of_mem)); first | done | fail), ?_⟩)); intro x hx; first | (cases hx; done) | ((repeat (first | exact hx | apply List.mem_cons_of_mem)); done))) (stab_pure (by rfl) (fun w => (by go_simp; try with_reducible rfl))) ?_; simp only [Act.put, List.setIfInBounds_toArray, List.set_cons_zero, List.set_cons_succ]; refine RS_take (i := 5) rfl (by decide +kernel) (fun _ _ _ h => h) (by first | (intro x hx; (repeat (first | exact hx | apply List.mem_cons_of_mem)); done) | ((repeat (refine List.forall_mem_cons.2 ⟨(by (repeat (first | assumption | (with_reducible exact List.mem_cons_self) | apply List.mem_cons_of_mem)); first | done | fail), ?_⟩)); intro x hx; first | (cases hx; done) | ((repeat (first | exact hx | apply List.mem_cons_of_mem)); done))) (stab_read (by rfl) (fun L w hL hM => (ex_load1 hM rfl rfl (hL _ (by (repeat (first | assumption | (with_reducible exact List.mem_cons_self) | apply List.mem_cons_of_mem)); first | done | fail)) (ltC_39 HI.out) (by decide +kernel)))) ?_; simp only [Act.put, List.setIfInBounds_toArray, List.set_cons_zero, List.set_cons_succ]; refine RS_take (i := 6) rfl (by decide +kernel) (fun _ _ _ h => h) (by first | (intro x hx; (repeat (first | exact hx | apply List.mem_cons_of_mem)); done) | ((repeat (refine List.forall_mem_cons.2 ⟨(by (repeat (first | assumption | (with_reducible exact List.mem_cons_self) | apply List.mem_cons_of_mem)); first | done | fail), ?_⟩)); intro x hx; first | (cases hx; done) | ((repeat (first | exact hx | apply List.mem_cons_of_mem)); done))) (stab_call (by rfl) (fun w => (by go_simp; try with_reducible rfl)) (fun L w hL hM => (HH.out _ w hM (hL _ (by (repeat (first | assumption | (with_reducible exact List.mem_cons_self) | apply List.mem_cons_of_mem)); first | done | fail))))) ?_; simp only [Act.put, List.setIfInBounds_toArray, List.set_cons_zero, List.set_cons_succ]; refine RS_take (i := 7) rfl (by decide +kernel) (fun _ _ _ h => h) (by first | (intro x hx; (repeat (first | exact hx | apply List.mem_cons_of_mem)); done) | ((repeat (refine List.forall_mem_cons.2 ⟨(by (repeat (first | assumption | (with_reducible exact List.mem_cons_self) | apply List.mem_cons_of_mem)); first | done | fail), ?_⟩)); intro x hx; first | (cases hx; done) | ((repeat (first | exact hx | apply List.mem_cons_of_mem)); done))) (stab_pure (by rfl) (fun w => (by go_simp; try with_reducible rfl))) ?_; simp only [Act.put, List.setIfInBounds_toArray, List.set_cons_zero, List.set_cons_succ]; refine RS_take (i := 8) rfl (by decide +kernel) (fun _ _ _ h => h) (by first | (intro x hx; (repeat (first | exact hx | apply List.mem_cons_of_mem)); done) | ((repeat (refine List.forall_mem_cons.2 ⟨(by (repeat (first | assumption | (with_reducible exact List.mem_cons_self) | apply List.mem_cons_of_mem)); first | done | fail), ?_⟩)); intro x hx; first | (cases hx; done) | ((repeat (first | exact hx | apply List.mem_cons_of_mem)); done))) (stab_pure (by rfl) (fun w => (by go_simp; try with_reducible rfl))) ?_; simp only [Act.put, List.setIfInBounds_toArray, List.set_cons_zero, List.set_cons_succ]; refine RS_take (i := 9) rfl (by decide +kernel) (fun _ _ _ h => h) (by first | (intro x hx; (repeat (first | exact hx | apply List.mem_cons_of_mem)); done) | ((repeat (refine List.forall_mem_cons.2 ⟨(by (repeat (first | assumption | (with_reducible exact List.mem_cons_self) | apply List.mem_cons_of_mem)); first | done | fail), ?_⟩)); intro x hx; first | (cases hx; done) | ((repeat (first | exact hx | apply List.mem_cons_of_mem)); done))) (stab_pure (by rfl) (fun w => (by go_simp; try with_reducible rfl))) ?_; simp only [Act.put, List.setIfInBounds_toArray, List.set_cons_zero, List.set_cons_succ]; refine RS_done (by decide +kernel) (.inl (by first | (intro x hx; (repeat (first | exact hx | apply List.mem_cons_of_mem)); done) | ((repeat (refine List.forall_mem_cons.2 ⟨(by (repeat (first | assumption | (with_reducible exact List.mem_cons_self) | apply List.mem_cons_of_mem)); first | done | fail), ?_⟩)); intro x hx; first | (cases hx; done) | ((repeat (first | exact hx | apply List.mem_cons_of_mem)); done)))) (fun w hM => ?_))
    go_wp2
    go_ret
    exact ⟨ret_str (by simp), hM.sel (by repeat (first | (with_reducible exact Sel.refl) | (with_reducible exact Take.head) | (with_reducible apply Take.tail) | (with_reducible apply Sel.cons) | (with_reducible apply Sel.drop)))⟩
  · clear HS HP HH q3 q4 q5
    go_enter Try.func18, Try.ntmps18
    go_wp2_with (first | (first | ((with_reducible refine at_box' ?_); (have hM0 := hM; clear hM; refine BigFrame.wpList_want (by rfl) fun K hK => ws_box hM0 rfl rfl (cs := ltC k f t q id wh x A np c B mp d) rfl (fun gx w hM => hK _ _ ?_); clear hM0 hK K)) | fail) | (first | ((with_reducible refine at_load' ?_); (refine BigFrame.wpList_want (by rfl) fun K hK => ws_load1 hM rfl rfl (by (repeat (first | assumption | (with_reducible exact List.mem_cons_self) | apply List.mem_cons_of_mem)); first | done | fail) (by with_reducible (first | exact ltC_0 | exact ltC_1 | exact ltC_2 | exact ltC_3 | exact ltC_36 HI.out | exact ltC_37 HI.out | exact ltC_38 HI.out | exact ltC_39 HI.out)) (by decide +kernel) (hK _ _ ?_); clear hK K)) | fail) | ((with_reducible refine at_load' ?_); refine BigFrame.wpList_want (by rfl) fun K hK => ws_load_mid hM rfl rfl (by (repeat (first | assumption | (with_reducible exact List.mem_cons_self) | apply List.mem_cons_of_mem)); first | done | fail) (bvs id) (fun j v hj => ltC_id j v hj) (n := 32) (by simp [bvs_len, HI.out]) (by decide +kernel) (hK _ _ ?_); clear hK K) | (go_at_call 51; have hM0 := hM; clear hM; (first | (with_reducible refine (starq (HN.out _) hM0).mono ?_) | fail); clear hM0; rintro _ w ⟨rfl, hM⟩) | (go_at_call 51; have hM0 := hM; clear hM; (first | (with_reducible refine (starq (H4.out _) hM0).mono ?_) | fail); clear hM0; rintro _ w ⟨rfl, hM⟩) | (go_at_call 51; have hM0 := hM; clear hM; (first | (with_reducible refine (starq (H8.out _) hM0).mono ?_) | fail); clear hM0; rintro _ w ⟨rfl, hM⟩) | (go_at_call 51; have hM0 := hM; clear hM; (first | (with_reducible refine (starq (HW.out _) hM0).mono ?_) | fail); clear hM0; rintro _ w ⟨rfl, hM⟩) | (first | ((with_reducible refine at_slice' ?_); (have hM0 := hM; clear hM; refine BigFrame.wpList_want (by rfl) fun K hK => ws_slice_row hM0 (n := 4) rfl 3 1 (.int .i64 0) [iv k, iv f, iv t, iv q] Try.underlying24 (by kernel_rfl) rfl (by simp [Value.cells, iv, sv, bv]) (by rfl) (by decide) (cs := ivs [k, f, t, q]) (by rfl) (fun g12 w hM => hK _ _ ?_); clear hM0 hK K)) | fail) | (first | ((with_reducible refine at_slice' ?_); (have hM0 := hM; clear hM; refine BigFrame.wpList_want (by rfl) fun K hK => ws_slice_row hM0 (n := 1) rfl 3 1 (.int .i64 0) [iv wh] Try.underlying24 (by kernel_rfl) rfl (by simp [Value.cells, iv, sv, bv]) (by rfl) (by decide) (cs := ivs [wh]) (by rfl) (fun g29 w hM => hK _ _ ?_); clear hM0 hK K)) | fail) | (go_at_call 55; have hM0 := hM; clear hM; (first | (with_reducible refine (HA.out _ g12 _ hM0 (by (repeat (first | assumption | (with_reducible exact List.mem_cons_self) | apply List.mem_cons_of_mem)); first | done | fail)).mono ?_) | fail); clear hM0; rintro _ w ⟨rfl, hM⟩) | (go_at_call 55; have hM0 := hM; clear hM; (first | (with_reducible refine (HB.out _ g29 _ hM0 (by (repeat (first | assumption | (with_reducible exact List.mem_cons_self) | apply List.mem_cons_of_mem)); first | done | fail)).mono ?_) | fail); clear hM0; rintro _ w ⟨rfl, hM⟩) | (go_at_call 36; have hM0 := hM; clear hM; (first | (with_reducible refine (obytes_star id HI.out _ hM0).mono ?_) | fail); clear hM0; rintro _ w ⟨rfl, hM⟩) | (go_at_call 56; have hM0 := hM; clear hM; (first | (with_reducible refine (star0 (HS.out _) hM0).mono ?_) | fail); clear hM0; rintro _ w ⟨rfl, hM⟩))
    go_ret
    exact ⟨ret_str (by simp), hM.sel (by repeat (first | (with_reducible exact Sel.refl) | (with_reducible exact Take.head) | (with_reducible apply Take.tail) | (with_reducible apply Sel.cons) | (with_reducible apply Sel.drop)))⟩
  · clear HP HH q4 q5
    go_enter Try.func18, Try.ntmps18
    go_wp2_with (first | (first | ((with_reducible refine at_box' ?_); (have hM0 := hM; clear hM; refine BigFrame.wpList_want (by rfl) fun K hK => ws_box hM0 rfl rfl (cs := ltC k f t q id wh x A np c B mp d) rfl (fun gx w hM => hK _ _ ?_); clear hM0 hK K)) | fail) | (first | ((with_reducible refine at_load' ?_); (refine BigFrame.wpList_want (by rfl) fun K hK => ws_load1 hM rfl rfl (by (repeat (first | assumption | (with_reducible exact List.mem_cons_self) | apply List.mem_cons_of_mem)); first | done | fail) (by with_reducible (first | exact ltC_0 | exact ltC_1 | exact ltC_2 | exact ltC_3 | exact ltC_36 HI.out | exact ltC_37 HI.out | exact ltC_38 HI.out | exact ltC_39 HI.out)) (by decide +kernel) (hK _ _ ?_); clear hK K)) | fail) | ((with_reducible refine at_load' ?_); refine BigFrame.wpList_want (by rfl) fun K hK => ws_load_mid hM rfl rfl (by (repeat (first | assumption | (with_reducible exact List.mem_cons_self) | apply List.mem_cons_of_mem)); first | done | fail) (bvs id) (fun j v hj => ltC_id j v hj) (n := 32) (by simp [bvs_len, HI.out]) (by decide +kernel) (hK _ _ ?_); clear hK K) | (go_at_call 51; have hM0 := hM; clear hM; (first | (with_reducible refine (starq (HN.out _) hM0).mono ?_) | fail); clear hM0; rintro _ w ⟨rfl, hM⟩) | (go_at_call 51; have hM0 := hM; clear hM; (first | (with_reducible refine (starq (H4.out _) hM0).mono ?_) | fail); clear hM0; rintro _ w ⟨rfl, hM⟩) | (go_at_call 51; have hM0 := hM; clear hM; (first | (with_reducible refine (starq (H8.out _) hM0).mono ?_) | fail); clear hM0; rintro _ w ⟨rfl, hM⟩) | (go_at_call 51; have hM0 := hM; clear hM; (first | (with_reducible refine (starq (HW.out _) hM0).mono ?_) | fail); clear hM0; rintro _ w ⟨rfl, hM⟩) | (first | ((with_reducible refine at_slice' ?_); (have hM0 := hM; clear hM; refine BigFrame.wpList_want (by rfl) fun K hK => ws_slice_row hM0 (n := 4) rfl 3 1 (.int .i64 0) [iv k, iv f, iv t, iv q] Try.underlying24 (by kernel_rfl) rfl (by simp [Value.cells, iv, sv, bv]) (by rfl) (by decide) (cs := ivs [k, f, t, q]) (by rfl) (fun g12 w hM => hK _ _ ?_); clear hM0 hK K)) | fail) | (first | ((with_reducible refine at_slice' ?_); (have hM0 := hM; clear hM; refine BigFrame.wpList_want (by rfl) fun K hK => ws_slice_row hM0 (n := 1) rfl 3 1 (.int .i64 0) [iv wh] Try.underlying24 (by kernel_rfl) rfl (by simp [Value.cells, iv, sv, bv]) (by rfl) (by decide) (cs := ivs [wh]) (by rfl) (fun g29 w hM => hK _ _ ?_); clear hM0 hK K)) | fail) | (go_at_call 55; have hM0 := hM; clear hM; (first | (with_reducible refine (HA.out _ g12 _ hM0 (by (repeat (first | assumption | (with_reducible exact List.mem_cons_self) | apply List.mem_cons_of_mem)); first | done | fail)).mono ?_) | fail); clear hM0; rintro _ w ⟨rfl, hM⟩) | (go_at_call 55; have hM0 := hM; clear hM; (first | (with_reducible refine (HB.out _ g29 _ hM0 (by (repeat (first | assumption | (with_reducible exact List.mem_cons_self) | apply List.mem_cons_of_mem)); first | done | fail)).mono ?_) | fail); clear hM0; rintro _ w ⟨rfl, hM⟩) | (go_at_call 36; have hM0 := hM; clear hM; (first | (with_reducible refine (obytes_star id HI.out _ hM0).mono ?_) | fail); clear hM0; rintro _ w ⟨rfl, hM⟩) | (go_at_call 56; have hM0 := hM; clear hM; (first | (with_reducible refine (star0 (HS.out _) hM0).mono ?_) | fail); clear hM0; rintro _ w ⟨rfl, hM⟩))
    go_ret
    exact ⟨ret_str (by simp), hM.sel (by repeat (first | (with_reducible exact Sel.refl) | (with_reducible exact Take.head) | (with_reducible apply Take.tail) | (with_reducible apply Sel.cons) | (with_reducible apply Sel.drop)))⟩
  · clear HB HS HP HH q2 q3 q4 q5
    go_enter Try.func18, Try.ntmps18
    go_wp2_with (first | (first | ((with_reducible refine at_box' ?_); (have hM0 := hM; clear hM; refine BigFrame.wpList_want (by rfl) fun K hK => ws_box hM0 rfl rfl (cs := ltC k f t q id wh x A np c B mp d) rfl (fun gx w hM => hK _ _ ?_); clear hM0 hK K)) | fail) | (first | ((with_reducible refine at_load' ?_); (refine BigFrame.wpList_want (by rfl) fun K hK => ws_load1 hM rfl rfl (by (repeat (first | assumption | (with_reducible exact List.mem_cons_self) | apply List.mem_cons_of_mem)); first | done | fail) (by with_reducible (first | exact ltC_0 | exact ltC_1 | exact ltC_2 | exact ltC_3 | exact ltC_36 HI.out | exact ltC_37 HI.out | exact ltC_38 HI.out | exact ltC_39 HI.out)) (by decide +kernel) (hK _ _ ?_); clear hK K)) | fail) | ((with_reducible refine at_load' ?_); refine BigFrame.wpList_want (by rfl) fun K hK => ws_load_mid hM rfl rfl (by (repeat (first | assumption | (with_reducible exact List.mem_cons_self) | apply List.mem_cons_of_mem)); first | done | fail) (bvs id) (fun j v hj => ltC_id j v hj) (n := 32) (by simp [bvs_len, HI.out]) (by decide +kernel) (hK _ _ ?_); clear hK K) | (go_at_call 51; have hM0 := hM; clear hM; (first | (with_reducible refine (starq (HN.out _) hM0).mono ?_) | fail); clear hM0; rintro _ w ⟨rfl, hM⟩) | (go_at_call 51; have hM0 := hM; clear hM; (first | (with_reducible refine (starq (H4.out _) hM0).mono ?_) | fail); clear hM0; rintro _ w ⟨rfl, hM⟩) | (go_at_call 51; have hM0 := hM; clear hM; (first | (with_reducible refine (starq (H8.out _) hM0).mono ?_) | fail); clear hM0; rintro _ w ⟨rfl, hM⟩) | (go_at_call 51; have hM0 := hM; clear hM; (first | (with_reducible refine (starq (HW.out _) hM0).mono ?_) | fail); clear hM0; rintro _ w ⟨rfl, hM⟩) | (first | ((with_reducible refine at_slice' ?_); (have hM0 := hM; clear hM; refine BigFrame.wpList_want (by rfl) fun K hK => ws_slice_row hM0 (n := 4) rfl 3 1 (.int .i64 0) [iv k, iv f, iv t, iv q] Try.underlying24 (by kernel_rfl) rfl (by simp [Value.cells, iv, sv, bv]) (by rfl) (by decide) (cs := ivs [k, f, t, q]) (by rfl) (fun g12 w hM => hK _ _ ?_); clear hM0 hK K)) | fail) | (go_at_call 55; have hM0 := hM; clear hM; (first | (with_reducible refine (HA.out _ g12 _ hM0 (by (repeat (first | assumption | (with_reducible exact List.mem_cons_self) | apply List.mem_cons_of_mem)); first | done | fail)).mono ?_) | fail); clear hM0; rintro _ w ⟨rfl, hM⟩) | (go_at_call 36; have hM0 := hM; clear hM; (first | (with_reducible refine (obytes_star id HI.out _ hM0).mono ?_) | fail); clear hM0; rintro _ w ⟨rfl, hM⟩))
    go_ret
    exact ⟨ret_str (by simp), hM.sel (by repeat (first | (with_reducible exact Sel.refl) | (with_reducible exact Take.head) | (with_reducible apply Take.tail) | (with_reducible apply Sel.cons) | (with_reducible apply Sel.drop)))⟩
end Go.Proofs.Ytlhedbjjlomniaa
set_option linter.unusedSimpArgs false
set_option linter.unusedVariables false
namespace Go.Proofs.Ytlhedbjjlomniaa
open Go.RowKit
attribute [local go_sem] extract_mid extract_drop bget bsize wrap64_u8 i64_u8 u64_u8 bappend
/-- The document's letter, its cells. -/
abbrev rtC (k f t q : Int) (id : List UInt8) (wh : Int) (x : List UInt8) (A : Option Addr) (n c : Nat) (B : Option Addr) (m d : Nat) : Array Value := #[.int .i64 k, .int .i64 f, .int .i64 t, .int .i64 q, .string ⟨id.toArray⟩, .int .i64 wh, .string ⟨x.toArray⟩, .slice A n c, .slice B m d]
def rv (vk1 vk2 bf bt vq1 vq2 vp vh vx bn bz v4 vs v8 ve bw w1 w3 w0 ap ah : Bool) : Int :=
  bif vk1 || vk2 then 2 else bif !bf || !bt || vq1 || vq2 then 10 else bif vp || vh || vx then 5 else bif (!bn && !bz) || (v4 && vs) || (v8 && ve) then 2 else bif (bw && (w1 || w3)) || (!bw && w0) then 2 else bif !ap || !ah then 10 else 0
end Go.Proofs.Ytlhedbjjlomniaa
