/- What the laws share, part 2 (Codec, LetP, MerP, At, ArrEq, Ref4, Ref4b, Build, Sha, Word, Turn, Spread, Rounds, Region, Block, HashP, HashW). No condition but those that each theorem names. -/
import Derived.Test.YtlhedbjjlomniaaW1
import Derived.Deep.LoopGhost
import Derived.Laws.Externs
import Derived.Laws.ResultCell
import Derived.Laws.StructEq
import Derived.Lib.Builder
import Derived.Lib.UnsafeStr
import Derived.StillTailTactics
import Derived.Test.YtlhedbjjlomniaaRows
set_option linter.unusedSimpArgs false
set_option linter.unusedVariables false
namespace Go.Proofs.Ytlhedbjjlomniaa
abbrev Par (α : Type) := List UInt8 → Int → α × List UInt8 × Int
def Par.bind {α β : Type} (p : Par α) (f : α → Par β) : Par β := fun l e => f (p l e).1 (p l e).2.1 (p l e).2.2
def Par.ret {α : Type} (a : α) : Par α := fun l e => (a, l, e)
/-- An error stays. -/
def Stay {α : Type} (p : Par α) : Prop := ∀ l e, e ≠ 0 → (p l e).2 = (l, e)
/-- Reader p takes x as v, and tells a beginning of x. -/
structure Codec {α : Type} (p : Par α) (x : List UInt8) (v : α) : Prop where
  full : ∀ t, p (x ++ t) 0 = (v, t, 0)
  cut : ∀ y, y <+: x → y ≠ x → (p y 0).2 = ([], 1)
/-- What p takes without an error is just what f writes of it. -/
def Inv {α : Type} (p : Par α) (f : α → List UInt8) : Prop := ∀ l v t, p l 0 = (v, t, 0) → f v ++ t = l
theorem Stay.bind {α β : Type} {p : Par α} {f : α → Par β} (hp : Stay p) (hf : ∀ a, Stay (f a)) : Stay (p.bind f) := fun l e he => by
  have h1 := hp l e he
  unfold Par.bind
  rw [h1]
  exact hf _ l e he
theorem Stay.ret {α : Type} (a : α) : Stay (Par.ret a) := fun _ _ _ => rfl
theorem Codec.ret {α : Type} (a : α) : Codec (Par.ret a) [] a := ⟨fun _ => rfl, fun y hy hne => absurd (List.prefix_nil.1 hy) hne⟩
theorem prefix_append_cases {y a b : List UInt8} (h : y <+: a ++ b) : (y <+: a ∧ y ≠ a) ∨ ∃ z, y = a ++ z ∧ z <+: b := by
  rcases Nat.lt_or_ge y.length a.length with hl | hl
  · refine .inl ⟨List.prefix_of_prefix_length_le h (List.prefix_append a b) (by omega), fun e => by subst e; omega⟩
  · have ha : a <+: y := List.prefix_of_prefix_length_le (List.prefix_append a b) h hl
    obtain ⟨z, rfl⟩ := ha
    exact .inr ⟨z, rfl, (List.prefix_append_right_inj a).1 h⟩
theorem Codec.bind {α β : Type} {p : Par α} {f : α → Par β} {x y : List UInt8} {v : α} {u : β} (hp : Codec p x v) (hf : Codec (f v) y u) (hs : ∀ a, Stay (f a)) : Codec (p.bind f) (x ++ y) u := by
  refine ⟨fun t => ?_, fun c hc hne => ?_⟩
  · unfold Par.bind
    rw [List.append_assoc, hp.full (y ++ t)]
    exact hf.full t
  · rcases prefix_append_cases hc with ⟨h1, h2⟩ | ⟨z, rfl, hz⟩
    · have := hp.cut c h1 h2
      unfold Par.bind
      rw [this]
      exact hs _ [] 1 (by omega)
    · unfold Par.bind
      rw [hp.full z]
      exact hf.cut z hz fun e => hne (by rw [e])
theorem Codec.map {α β : Type} {p : Par α} {x : List UInt8} {v : α} (g : α → β) (hp : Codec p x v) : Codec (p.bind fun a => Par.ret (g a)) x (g v) := by
  have := hp.bind (f := fun a => Par.ret (g a)) (Codec.ret (g v)) fun a => Stay.ret _
  simpa using this
/-- Backwards: the reader p, then f v, to which w writes. -/
theorem Par.bind_ok {α β : Type} {p : Par α} {f : α → Par β} (hs : ∀ a, Stay (f a)) {l t : List UInt8} {u : β} (h : p.bind f l 0 = (u, t, 0)) : ∃ v m, p l 0 = (v, m, 0) ∧ f v m 0 = (u, t, 0) := by
  unfold Par.bind at h
  rcases hq : p l 0 with ⟨v, m, e⟩
  rw [hq] at h
  simp only at h
  by_cases he : e = 0
  · subst he; exact ⟨v, m, rfl, h⟩
  · have := hs v m e he
    rw [h] at this
    simp only [Prod.mk.injEq] at this
    exact absurd this.2.symm he
-- the readers of a bale
theorem mNum_cut (n : Nat) (hn : n ≤ 18446744073709551615) (y : List UInt8) (hy : y <+: encNum n) (hne : y ≠ encNum n) : (mNum y 0).2 = ([], 1) := by
  cases y with
  | nil => rfl
  | cons c t =>
    unfold encNum at hy hne
    rw [List.cons_prefix_cons] at hy
    obtain ⟨rfl, ht⟩ := hy
    have hd := dig_len n
    have hc : (UInt8.ofNat (dig n).length).toNat = (dig n).length := by simp; omega
    have hlt : t.length < (dig n).length := by
      rcases Nat.lt_or_ge t.length (dig n).length with h | h
      · exact h
      · exact absurd (by rw [ht.eq_of_length_le h]) hne
    unfold mNum
    simp only [if_true]
    rw [hc, if_neg (by omega), if_pos hlt]
theorem pInt (n : Nat) (top : Int) (h : (n : Int) ≤ max top 0) (hn : n ≤ 18446744073709551615) : Codec (fun l e => mInt l e top) (encNum n) (n : Int) :=
  ⟨fun t => mInt_enc n t top h hn, fun y hy hne => by simp [mInt, mNum_cut n hn y hy hne]⟩
theorem sInt_ (top : Int) : Stay (fun l e => mInt l e top) := fun l e he => by simp only [mInt_err l top he]
theorem mBytes_cut (x y : List UInt8) (hy : y <+: x) (hne : y ≠ x) : (mBytes y 0 (x.length : Int)).2 = ([], 1) := by
  have hlt : y.length < x.length := by
    rcases Nat.lt_or_ge y.length x.length with h | h
    · exact h
    · exact absurd (hy.eq_of_length_le h) hne
  simp only [mBytes, if_true]
  rw [if_neg (by omega)]
theorem pBytes (x : List UInt8) (n : Int) (hn : (x.length : Int) = n) : Codec (fun l e => mBytes l e n) x x := by
  subst hn
  exact ⟨fun t => mBytes_app x t, fun y hy hne => mBytes_cut x y hy hne⟩
theorem iInt (top : Int) {l t : List UInt8} {v : Int} (h : mInt l 0 top = (v, t, 0)) : encNum v.toNat ++ t = l ∧ 0 ≤ v ∧ v ≤ max top 0 := by
  have hr := mInt_range l 0 top
  rw [h] at hr
  refine ⟨?_, hr⟩
  unfold mInt at h
  simp only at h
  split at h
  · rename_i h0
    split at h
    · simp at h
    · simp only [Prod.mk.injEq] at h
      have h1 := mNum_one l h0
      rw [h.2.1, show v.toNat = (mNum l 0).1 by omega] at *
      exact h1
  · rename_i h0
    simp only [Prod.mk.injEq] at h
    exact absurd h.2.2 h0
theorem iBytes {n : Int} {l t v : List UInt8} (h : mBytes l 0 n = (v, t, 0)) : v ++ t = l ∧ (v.length : Int) = n := by
  simp only [mBytes, if_true] at h
  split at h
  · rename_i h0
    simp only [Prod.mk.injEq] at h
    obtain ⟨rfl, rfl, _⟩ := h
    exact ⟨List.take_append_drop _ _, by simp; omega⟩
  · simp at h
end Go.Proofs.Ytlhedbjjlomniaa
set_option linter.unusedSimpArgs false
set_option linter.unusedVariables false
namespace Go.Proofs.Ytlhedbjjlomniaa
structure Ltr where
  k : Int
  f : Int
  t : Int
  q : Int
  id : List UInt8
  w : Int
  x : List UInt8
  ps : List Int
  hs : List Int
def hasName (k : Int) : Bool := decide (3 ≤ k ∧ k ≤ 10)
def hasWhat (k : Int) : Bool := decide (7 ≤ k ∧ k ≤ 9)
def addr (n : Int) : Bool := decide (0 ≤ n ∧ n < 64)
def zeroB (l : List UInt8) : Bool := l.all (· == 0)
/-- What a letter must be, one by one. -/
structure Okay (l : Ltr) : Prop where
  k1 : 1 ≤ l.k
  k2 : l.k ≤ 10
  f : addr l.f = true
  t : addr l.t = true
  q1 : 0 ≤ l.q
  q2 : l.q ≤ 4294967296
  ps : l.ps.length ≤ 8
  hs : l.hs.length ≤ 8
  x : l.x.length ≤ 512
  id : hasName l.k = false → zeroB l.id = true
  no4 : l.k ≠ 4 → l.ps = [] ∧ l.hs = []
  no8 : l.k ≠ 8 → l.x = []
  w1 : hasWhat l.k = true → 1 ≤ l.w ∧ l.w ≤ 3
  w0 : hasWhat l.k = false → l.w = 0
  psA : ∀ n ∈ l.ps, addr n = true
  hsA : ∀ n ∈ l.hs, addr n = true
def encN (n : Int) : List UInt8 := encNum (max n 0).toNat
def encL (l : List Int) : List UInt8 := encN l.length ++ encNums l
def bytesL (l : Ltr) : List UInt8 :=
  [99, 118] ++ (encN l.k ++ (encN l.f ++ (encN l.t ++ (encN l.q ++ ((if hasName l.k = true then l.id else []) ++ ((if hasWhat l.k = true then encN l.w else []) ++ ((if l.k = 8 then encStr l.x else []) ++ ((if l.k = 4 then encL l.ps else []) ++ (if l.k = 4 then encL l.hs else [])))))))))
def pInt_ (top : Int) : Par Int := fun l e => mInt l e top
def pBytes_ (n : Int) : Par (List UInt8) := fun l e => mBytes l e n
theorem stay_int (top : Int) : Stay (pInt_ top) := sInt_ top
theorem encNums_cons (n : Int) (l : List Int) : encNums (n :: l) = encN n ++ encNums l := by simp [encNums, encN]
theorem codec_int (n top : Int) (h0 : 0 ≤ n) (h : n ≤ max top 0) (hn : n ≤ 9223372036854775807) : Codec (pInt_ top) (encN n) n := by
  have := pInt (max n 0).toNat top (by omega) (by omega)
  rw [show (((max n 0).toNat : Nat) : Int) = n by omega] at this
  exact this
theorem encN_len (n : Int) : (encN n).length ≤ 9 := encNum_len _
theorem bytes_len {l : Ltr} (h : Okay l) (hid : l.id.length ≤ 32) : (bytesL l).length ≤ 700 := by
  have e1 := encN_len l.k
  have e2 := encN_len l.f
  have e3 := encN_len l.t
  have e4 := encN_len l.q
  have e5 := encN_len l.w
  have e6 := encStr_len l.x
  have e7 := encN_len l.ps.length
  have e8 := encN_len l.hs.length
  have e9 := encNums_len l.ps
  have e10 := encNums_len l.hs
  have hx := h.x
  have hp := h.ps
  have hh := h.hs
  by_cases k4 : l.k = 4
  · have k8 : l.k ≠ 8 := by omega
    simp only [bytesL, encL, List.length_append, List.length_cons, List.length_nil]
    rw [if_neg k8, if_pos k4, if_pos k4]
    split <;> split <;> simp only [List.length_append, List.length_nil] <;> omega
  · simp only [bytesL, encL, List.length_append, List.length_cons, List.length_nil]
    rw [if_neg k4, if_neg k4]
    split <;> split <;> split <;> simp only [List.length_append, List.length_nil] <;> omega
theorem inv_int (top : Int) : Inv (pInt_ top) encN := fun l v t h => by
  obtain ⟨h1, h2, _⟩ := iInt top h
  rw [encN, show (max v 0).toNat = v.toNat by omega]; exact h1
end Go.Proofs.Ytlhedbjjlomniaa
set_option linter.unusedSimpArgs false
set_option linter.unusedVariables false
namespace Go.Proofs.Ytlhedbjjlomniaa
abbrev Pt := List UInt8 × Int
def sumP : List Pt → Int
  | [] => 0
  | p :: l => p.2 + sumP l
theorem sumP_app (a b : List Pt) : sumP (a ++ b) = sumP a + sumP b := by
  induction a with
  | nil => simp [sumP]
  | cons p a ih => simp only [List.cons_append, sumP, ih]; omega
theorem sumP_le (m : Int) : ∀ l : List Pt, (∀ p ∈ l, 0 ≤ p.2 ∧ p.2 ≤ m) → 0 ≤ sumP l ∧ sumP l ≤ m * l.length
  | [], _ => by simp [sumP]
  | p :: l, h => by
    have h1 := h p List.mem_cons_self
    have h2 := sumP_le m l fun q hq => h q (List.mem_cons_of_mem _ hq)
    simp only [sumP, List.length_cons]
    have : m * ((l.length + 1 : Nat) : Int) = m * l.length + m := by rw [Int.natCast_add, Int.mul_add]; simp
    omega
def mostN (lv : Int) : Int := if lv ≤ 1 then 256 else if lv = 2 then 2048 else if lv = 3 then 16384 else 32768
theorem mostN_le (lv : Int) : 256 ≤ mostN lv ∧ mostN lv ≤ 32768 := by unfold mostN; split <;> (try split) <;> (try split) <;> omega
def firstBad (m : Int) : List Pt → Int
  | [] => 0
  | p :: l => if p.2 < 1 then 2 else if m < p.2 then 5 else firstBad m l
def checkN (n : Int × List Pt) : Int :=
  if n.1 < 1 ∨ 8 < n.1 ∨ n.2.length < 1 then 2 else if 8 < n.2.length then 5 else if firstBad (mostN n.1) n.2 ≠ 0 then firstBad (mostN n.1) n.2 else if 32768 < sumP n.2 then 5 else 0
def encPs (l : List Pt) : List UInt8 := l.flatMap fun p => p.1 ++ encN p.2
def textN (n : Int × List Pt) : List UInt8 := encN n.1 ++ (encN n.2.length ++ encPs n.2)
def mPts : Nat → List Pt → Par (List Pt)
  | 0, o => fun l e => (o, l, e)
  | n + 1, o => fun l e => if e = 0 then mPts n (o ++ [((mBytes l e 32).1, (mInt (mBytes l e 32).2.1 (mBytes l e 32).2.2 32768).1)]) (mInt (mBytes l e 32).2.1 (mBytes l e 32).2.2 32768).2.1 (mInt (mBytes l e 32).2.1 (mBytes l e 32).2.2 32768).2.2 else (o, l, e)
def pNode : Par (Int × List Pt) := (pInt_ 8).bind fun lv => (pInt_ 8).bind fun k => (mPts k.toNat []).bind fun l => Par.ret (lv, l)
def noN : Int × List Pt := (0, [])
def finN (n : Int × List Pt) (c : Int) : (Int × List Pt) × Int := if c ≠ 0 then (noN, c) else if checkN n ≠ 0 then (noN, checkN n) else (n, 0)
def parseN (s : List UInt8) : (Int × List Pt) × Int := finN (pNode s 0).1 (mClose (pNode s 0).2.1 (pNode s 0).2.2).2
theorem stay_pts : ∀ (n : Nat) (o : List Pt), Stay (mPts n o)
  | 0, _ => fun _ _ _ => rfl
  | n + 1, o => fun l e he => by simp only [mPts, if_neg he]
theorem encNums_sing (n : Int) : encNums [n] = encN n := by simp [encNums, encN]
theorem encPs_cons (p : Pt) (l : List Pt) : encPs (p :: l) = p.1 ++ (encN p.2 ++ encPs l) := by simp [encPs]
theorem encPs_app (a b : List Pt) : encPs (a ++ b) = encPs a ++ encPs b := by simp [encPs]
theorem encPs_one (p : Pt) : encPs [p] = p.1 ++ encN p.2 := by simp [encPs]
theorem encPs_len (l : List Pt) (h : ∀ p ∈ l, p.1.length ≤ 32) : (encPs l).length ≤ 41 * l.length := by
  induction l with
  | nil => simp [encPs]
  | cons p l ih =>
    have h1 := h p List.mem_cons_self
    have h2 := encN_len p.2
    have h3 := ih fun q hq => h q (List.mem_cons_of_mem _ hq)
    rw [encPs_cons]
    simp only [List.length_append, List.length_cons]
    omega
theorem codec_pts : ∀ (ps o : List Pt), (∀ p ∈ ps, p.1.length = 32 ∧ 0 ≤ p.2 ∧ p.2 ≤ 32768) → Codec (mPts ps.length o) (encPs ps) (o ++ ps)
  | [], o, _ => by rw [List.append_nil]; exact Codec.ret o
  | a :: ps, o, h => by
    have ha := h a List.mem_cons_self
    have ih := codec_pts ps (o ++ [a]) fun n hn => h n (List.mem_cons_of_mem _ hn)
    have hb := (pBytes a.1 32 (by omega)).bind (f := fun i => (pInt_ 32768).bind fun x => mPts ps.length (o ++ [(i, x)])) ((codec_int a.2 32768 (by omega) (by omega) (by omega)).bind (f := fun x => mPts ps.length (o ++ [(a.1, x)])) ih fun x => stay_pts _ _) fun x => Stay.bind (stay_int _) fun _ => stay_pts _ _
    rw [encPs_cons]
    rw [List.append_assoc, List.singleton_append] at hb
    refine ⟨fun t => ?_, fun y hy hne => ?_⟩
    · have := hb.full t
      simp only [List.length_cons, mPts, if_true]; exact this
    · have := hb.cut y hy hne
      simp only [List.length_cons, mPts, if_true]; exact this
theorem node_codec (lv : Int) (l : List Pt) (h1 : 0 ≤ lv) (h2 : lv ≤ 8) (h3 : l.length ≤ 8) (h : ∀ p ∈ l, p.1.length = 32 ∧ 0 ≤ p.2 ∧ p.2 ≤ 32768) : Codec pNode (textN (lv, l)) (lv, l) := by
  unfold pNode textN
  refine (codec_int lv 8 (by omega) (by omega) (by omega)).bind ?_ ?_
  refine (codec_int l.length 8 (by omega) (by omega) (by omega)).bind ?_ ?_
  have := (codec_pts l [] h).map (fun l => (lv, l))
  simpa using this
  all_goals
    intro a
    repeat' first | exact Stay.ret _ | exact stay_int _ | exact stay_pts _ _ | refine Stay.bind ?_ fun _ => ?_
theorem firstBad_ok {m : Int} : ∀ {l : List Pt}, firstBad m l = 0 → ∀ p ∈ l, 1 ≤ p.2 ∧ p.2 ≤ m
  | [], _ => by simp
  | q :: l, h => by
    unfold firstBad at h
    split at h
    · cases h
    split at h
    · cases h
    intro p hp
    rcases List.mem_cons.1 hp with rfl | hp
    · omega
    · exact firstBad_ok h p hp
theorem checkN_ok {n : Int × List Pt} (h : checkN n = 0) : 1 ≤ n.1 ∧ n.1 ≤ 8 ∧ 1 ≤ n.2.length ∧ n.2.length ≤ 8 ∧ (∀ p ∈ n.2, 1 ≤ p.2 ∧ p.2 ≤ mostN n.1) ∧ sumP n.2 ≤ 32768 := by
  unfold checkN at h
  split at h
  · cases h
  split at h
  · cases h
  split at h
  · rename_i h3; exact absurd h h3
  split at h
  · cases h
  rename_i h1 h2 h3 h4
  exact ⟨by omega, by omega, by omega, by omega, firstBad_ok (by simpa using h3), by omega⟩
theorem parseN_text {n : Int × List Pt} (h : checkN n = 0) (hid : ∀ p ∈ n.2, p.1.length = 32) : parseN (textN n) = (n, 0) := by
  obtain ⟨h1, h2, h3, h4, h5, h6⟩ := checkN_ok h
  have hm := mostN_le n.1
  have hc := (node_codec n.1 n.2 (by omega) h2 h4 fun p hp => by have := h5 p hp; have := hid p hp; omega).full []
  rw [List.append_nil] at hc
  unfold parseN
  rw [show textN n = textN (n.1, n.2) from rfl, hc]
  simp [finN, mClose, h]
theorem inv_pts : ∀ (n : Nat) (o l v t), mPts n o l 0 = (v, t, 0) → ∃ u, v = o ++ u ∧ u.length = n ∧ encPs u ++ t = l ∧ ∀ p ∈ u, p.1.length = 32 ∧ 0 ≤ p.2 ∧ p.2 ≤ 32768
  | 0, o, l, v, t, h => by
    simp only [mPts, Prod.mk.injEq] at h
    obtain ⟨rfl, rfl, _⟩ := h
    exact ⟨[], by simp, rfl, by simp [encPs], by simp⟩
  | n + 1, o, l, v, t, h => by
    simp only [mPts, if_true] at h
    obtain ⟨a, m, h1, h2⟩ := Par.bind_ok (p := pBytes_ 32) (f := fun i => (pInt_ 32768).bind fun x => mPts n (o ++ [(i, x)])) (fun x => Stay.bind (stay_int _) fun _ => stay_pts _ _) (l := l) (by exact h)
    obtain ⟨b, m2, h3, h4⟩ := Par.bind_ok (p := pInt_ 32768) (f := fun x => mPts n (o ++ [(a, x)])) (fun x => stay_pts _ _) h2
    obtain ⟨h5, h6⟩ := iBytes h1
    obtain ⟨h7, h8, h9⟩ := iInt 32768 h3
    obtain ⟨u, rfl, rfl, h10, h11⟩ := inv_pts n _ _ _ _ h4
    refine ⟨(a, b) :: u, by simp, rfl, ?_, ?_⟩
    · rw [encPs_cons, List.append_assoc, List.append_assoc, h10, encN, show (max b 0).toNat = b.toNat by omega]
      simp only
      rw [h7, h5]
    · intro p hp
      rcases List.mem_cons.1 hp with rfl | hp
      · simp only; omega
      · exact h11 p hp
/-- What was read is what it should be. -/
theorem parseN_good (s : List UInt8) : ((parseN s).1 = noN ∧ (parseN s).2 ≠ 0) ∨ ((parseN s).2 = 0 ∧ checkN (parseN s).1 = 0 ∧ textN (parseN s).1 = s ∧ ∀ p ∈ (parseN s).1.2, p.1.length = 32 ∧ 0 ≤ p.2 ∧ p.2 ≤ 32768) := by
  unfold parseN finN
  rcases hq : pNode s 0 with ⟨⟨lv, l⟩, u, e⟩
  simp only
  by_cases h3 : (mClose u e).2 ≠ 0
  · rw [if_pos h3]; exact .inl ⟨rfl, h3⟩
  rw [if_neg h3]
  by_cases h4 : checkN (lv, l) ≠ 0
  · rw [if_pos h4]; exact .inl ⟨rfl, h4⟩
  rw [if_neg h4]
  have hu : u = [] ∧ e = 0 := by
    have h5 : (mClose u e).2 = 0 := by simpa using h3
    unfold mClose mFail at h5
    by_cases hu : u = []
    · rw [if_pos hu] at h5; exact ⟨hu, h5⟩
    · rw [if_neg hu] at h5
      split at h5
      · simp at h5
      · rename_i he; exact absurd h5 he
  obtain ⟨rfl, rfl⟩ := hu
  refine .inr ⟨rfl, by simpa using h4, ?_⟩
  unfold pNode at hq
  obtain ⟨k, m1, a1, hq⟩ := Par.bind_ok (fun _ => by repeat' first | exact Stay.ret _ | exact stay_int _ | exact stay_pts _ _ | refine Stay.bind ?_ fun _ => ?_) hq
  obtain ⟨n, m2, a2, hq⟩ := Par.bind_ok (fun _ => by repeat' first | exact Stay.ret _ | exact stay_int _ | exact stay_pts _ _ | refine Stay.bind ?_ fun _ => ?_) hq
  obtain ⟨ps, m3, a3, hq⟩ := Par.bind_ok (fun _ => Stay.ret _) hq
  simp only [Par.ret, Prod.mk.injEq] at hq
  obtain ⟨⟨rfl, rfl⟩, rfl, _⟩ := hq
  obtain ⟨u, rfl, h6, h7, h8⟩ := inv_pts _ _ _ _ _ a3
  have b1 := inv_int 8 _ _ _ a1
  obtain ⟨b2, b3, _⟩ := iInt 8 a2
  simp only [List.nil_append] at *
  refine ⟨?_, h8⟩
  unfold textN
  simp only
  rw [← b1, ← b2, ← h7, encN, encN, h6, show (max ((n.toNat : Nat) : Int) 0).toNat = n.toNat by omega]
  simp
end Go.Proofs.Ytlhedbjjlomniaa
set_option linter.unusedSimpArgs false
set_option linter.unusedVariables false
namespace Go.Proofs.Ytlhedbjjlomniaa
open Go.RowKit
section
variable {P : Program} {w : World} {ops : Array Oper} {rest : List Oper} {a : Act} {Q : Exit → Act → World → Prop} {d : Option Tmp} {tp : TypeId} {pos : String} {af : Array Edge} {g : Option (Nat × Bool)}
theorem at_load' {ty : TypeId} {x : Operand} (h : wpList P ops Q (⟨d, .load ty x, tp, pos, af, g⟩ :: rest) a w) : wpList P ops Q (⟨d, .load ty x, tp, pos, af, g⟩ :: rest) a w := h
theorem at_store' {ty : TypeId} {x y : Operand} (h : wpList P ops Q (⟨d, .store ty x y, tp, pos, af, g⟩ :: rest) a w) : wpList P ops Q (⟨d, .store ty x y, tp, pos, af, g⟩ :: rest) a w := h
theorem at_alloc' {ty : TypeId} (h : wpList P ops Q (⟨d, .alloc ty, tp, pos, af, g⟩ :: rest) a w) : wpList P ops Q (⟨d, .alloc ty, tp, pos, af, g⟩ :: rest) a w := h
theorem at_box' {ty : TypeId} {x : Operand} (h : wpList P ops Q (⟨d, .box ty x, tp, pos, af, g⟩ :: rest) a w) : wpList P ops Q (⟨d, .box ty x, tp, pos, af, g⟩ :: rest) a w := h
theorem at_slice' {ty : TypeId} {n : Nat} {xs : Array (Nat × Operand)} (h : wpList P ops Q (⟨d, .buildSlice ty n xs, tp, pos, af, g⟩ :: rest) a w) : wpList P ops Q (⟨d, .buildSlice ty n xs, tp, pos, af, g⟩ :: rest) a w := h
theorem at_build' {ty : TypeId} {xs : Array (Nat × Operand)} (h : wpList P ops Q (⟨d, .build ty xs, tp, pos, af, g⟩ :: rest) a w) : wpList P ops Q (⟨d, .build ty xs, tp, pos, af, g⟩ :: rest) a w := h
theorem at_call' {c : Call} (h : wpList P ops Q (⟨d, .call c, tp, pos, af, g⟩ :: rest) a w) : wpList P ops Q (⟨d, .call c, tp, pos, af, g⟩ :: rest) a w := h
end
section
variable {P : Program} {w : World} {o : Oper} {a : Act} {t ty : TypeId} {x y : Operand}
theorem ex_add (ho : o.op = .binOp .add t x y ty) {i j s : Int} (hx : a.eval x = .int .i64 i) (hy : a.eval y = .int .i64 j) (hs : IntKind.i64.wrap (i + j) = s) : (execOp a.eval o).run P w = .ok (.value (.int .i64 s)) w := by
  unfold execOp
  simp only [ho, hx, hy]
  simp [go_sem]
  exact hs
theorem ex_gt {k : IntKind} (ho : o.op = .binOp .gtr t x y ty) {i j : Int} (hx : a.eval x = .int k i) (hy : a.eval y = .int k j) {b : Bool} (hb : (decide (j < i)) = b) : (execOp a.eval o).run P w = .ok (.value (.bool b)) w := by
  subst hb
  unfold execOp
  simp only [ho, hx, hy]
  simp [go_sem]
theorem ex_eq {k : IntKind} (ho : o.op = .binOp .eql t x y ty) {i j : Int} (hx : a.eval x = .int k i) (hy : a.eval y = .int k j) {b : Bool} (hb : (decide (i = j)) = b) : (execOp a.eval o).run P w = .ok (.value (.bool b)) w := by
  subst hb
  unfold execOp
  simp only [ho, hx, hy]
  simp [go_sem]
  rw [Bool.eq_iff_iff]; simp
theorem ex_ne {k : IntKind} (ho : o.op = .binOp .neq t x y ty) {i j : Int} (hx : a.eval x = .int k i) (hy : a.eval y = .int k j) {b : Bool} (hb : (!decide (i = j)) = b) : (execOp a.eval o).run P w = .ok (.value (.bool b)) w := by
  subst hb
  unfold execOp
  simp only [ho, hx, hy]
  simp [go_sem]
  rw [Bool.eq_iff_iff]; simp
theorem ex_eqs (ho : o.op = .binOp .eql t x y ty) {s u : List UInt8} (hx : a.eval x = .string ⟨s.toArray⟩) (hy : a.eval y = .string ⟨u.toArray⟩) {b : Bool} (hb : (decide (s = u)) = b) : (execOp a.eval o).run P w = .ok (.value (.bool b)) w := by
  subst hb
  unfold execOp
  simp only [ho, hx, hy]
  simp [go_sem]
  rw [Bool.eq_iff_iff]; simp
theorem ex_nes (ho : o.op = .binOp .neq t x y ty) {s u : List UInt8} (hx : a.eval x = .string ⟨s.toArray⟩) (hy : a.eval y = .string ⟨u.toArray⟩) {b : Bool} (hb : (!decide (s = u)) = b) : (execOp a.eval o).run P w = .ok (.value (.bool b)) w := by
  subst hb
  unfold execOp
  simp only [ho, hx, hy]
  simp [go_sem]
  rw [Bool.eq_iff_iff]; simp
end
/-- Results: a row in a cell, and a slot. -/
theorem results_row_tmp {P : Program} {fn : Func} {p u : Tmp} {ty : TypeId} (h : fn.results = #[.cell p ty, .tmp u]) (tmps : Array Value) (w : World) (g : Nat) (t : TypeId) (cs : Array Value) (n : Nat) (v : Value) (hp : tmps.getD p undef = .pointer (some ⟨g, 0, none⟩)) (hv : tmps.getD u undef = v) (hg : Blk w g t cs) (hn : cs.size = n) (hr : rowTy P ty n = true) :
    (results fn tmps).run P w = .ok (.tuple #[.agg cs, v]) w := by
  obtain ⟨⟨d, h1, h2⟩, h3⟩ := rowTy_und hr
  rw [results_cell_tmp h, hp, hv]
  simp [asAddr, run_loadVar_row w g t ty cs (0, 0) d hg h1 (by cases d <;> simp_all) (by rw [h3, hn])]
theorem results_row {P : Program} {fn : Func} {p : Tmp} {ty : TypeId} (h : fn.results = #[.cell p ty]) (tmps : Array Value) (w : World) (g : Nat) (t : TypeId) (cs : Array Value) (n : Nat) (hp : tmps.getD p undef = .pointer (some ⟨g, 0, none⟩)) (hg : Blk w g t cs) (hn : cs.size = n) (hr : rowTy P ty n = true) :
    (results fn tmps).run P w = .ok (.agg cs) w := by
  obtain ⟨⟨d, h1, h2⟩, h3⟩ := rowTy_und hr
  exact results_cell_row h tmps w g t cs (0, 0) d hp hg h1 (by cases d <;> simp_all) (by rw [h3, hn])
end Go.Proofs.Ytlhedbjjlomniaa
set_option linter.unusedSimpArgs false
set_option linter.unusedVariables false
namespace Go.Proofs.Ytlhedbjjlomniaa
open Go.RowKit
attribute [local go_sem] extract_mid extract_drop bget bsize wrap64_u8 i64_u8 u64_u8 bappend
theorem run_bin_arrN {P : Program} (w : World) (t e : TypeId) (n : Nat) (ht : P.underlying t = some (.array n e)) (he : P.underlying e = some (.int .u8)) (hi : (P.info? e).map (·.size) = some 1) (xs ys : List UInt8) (hx : xs.length = n) (hy : ys.length = n) :
    (binOp .neq t (.agg (bvs xs).toArray) (.agg (bvs ys).toArray)).run P w = .ok (.bool (!decide (xs = ys))) w := by
  have h1 := run_eql_bytes w t e n ht he hi xs ys hx hy 9998
  simp only [binOp]
  simp [Op.equal, Op.maxDepth, h1]
section
variable {P : Program} {w : World} {o : Oper} {a : Act} {t ty : TypeId} {x y : Operand}
theorem ex_neq_arr (ho : o.op = .binOp .neq t x y ty) {xs ys : List UInt8} (hx : a.eval x = .agg (bvs xs).toArray) (hy : a.eval y = .agg (bvs ys).toArray)
    {e : TypeId} {n : Nat} (ht : P.underlying t = some (.array n e)) (he : P.underlying e = some (.int .u8)) (hi : (P.info? e).map (·.size) = some 1) (hl : xs.length = n) (hl2 : ys.length = n) (hm : P.eqGuardType P.depth t = false) {b : Bool} (hb : (!decide (xs = ys)) = b) :
    (execOp a.eval o).run P w = .ok (.value (.bool b)) w := by
  have hr := run_bin_arrN (P := P) w t e n ht he hi xs ys hl hl2
  rw [hb] at hr
  unfold execOp
  simp only [ho, hx, hy, run_eqGuard_agg (P := P) w .neq t x y _ _ hm, hr, Sem.run_bind, Sem.run_pure, Result.andThen_ok]
theorem ws_of_ex {K : Act → World → Prop} {Q : Exit → Act → World → Prop} {v : Value} (h : (execOp a.eval o).run P w = .ok (.value v) w) (hK : K (a.put o.dst v) w) : Oper.wp P o a w K Q := by
  unfold Oper.wp
  rw [h]
  exact hK
end
end Go.Proofs.Ytlhedbjjlomniaa
set_option linter.unusedSimpArgs false
set_option linter.unusedVariables false
namespace Go.Proofs.Ytlhedbjjlomniaa
open Go.RowKit
attribute [local go_sem] extract_mid extract_drop bget bsize wrap64_u8 i64_u8 u64_u8 bappend
theorem Blk.two {w : World} {g : Nat} {t : TypeId} {a b : Value} (h : Blk w g t #[a, b]) : w.cell? ⟨g, 0, none⟩ = some a ∧ w.cell? ⟨g, 1, none⟩ = some b ∧ w.frozen? ⟨g, 0, none⟩ = false ∧ w.frozen? ⟨g, 1, none⟩ = false :=
  ⟨h.cell 0, h.cell 1, h.frozen 0, h.frozen 1⟩
theorem info_rb : (Try.prog.info? 111).map (fun i => i.zero) = some (some (.agg #[.string ⟨#[]⟩, .int .i64 0])) := by kernel_rfl
set_option maxRecDepth 100000 in
theorem rBytes_any (l : List UInt8) (e n : Int) (w : World) :
    Calls Try.prog 69 #[.agg #[.string ⟨l.toArray⟩, .int .i64 e], .int .i64 n] w fun r w' =>
      r = .returned (.tuple #[.agg #[.string ⟨(mBytes l e n).2.1.toArray⟩, .int .i64 (mBytes l e n).2.2], .string ⟨(mBytes l e n).1.toArray⟩]) ∧ Ch [] w w' := by
  by_cases he : e = 0
  · subst he
    by_cases h1 : 0 ≤ n ∧ n ≤ l.length
    · obtain ⟨h2, h3⟩ := h1
      obtain ⟨k, rfl⟩ := Int.eq_ofNat_of_zero_le h2
      have h4 : k ≤ l.length := by omega
      have e1 : mBytes l 0 (k : Int) = (l.take k, l.drop k, 0) := by simp [mBytes, h4]
      rw [e1]
      go_enter Try.func69, Try.ntmps69
      go_wp2
      go_region
      all_goals
        go_wp2
        refine bodyPost_ret (v := .tuple #[.agg #[.string ⟨(l.drop k).toArray⟩, .int .i64 0], .string ⟨(l.take k).toArray⟩]) (by simp [results, Try.results69, go_sem]) rfl ⟨rfl, (by repeat (first | exact Ch.refl _ _ | assumption | apply Ch.alloc | apply Ch.drew | apply Ch.drewN | (apply Ch.setCell; rotate_left; first | (left; simp; done) | (right; simp; done) | (right; simp; omega))))⟩
    · have e1 : mBytes l 0 n = ([], [], 1) := by simp only [mBytes, if_neg h1, if_true]
      rw [e1]
      rcases (by omega : n < 0 ∨ (l.length : Int) < n) with h2 | h2
      · go_enter Try.func69, Try.ntmps69
        go_wp2
        refine bodyPost_ret (v := .tuple #[.agg #[.string ⟨#[]⟩, .int .i64 1], .string ⟨#[]⟩]) (by simp [results, Try.results69, go_sem]) rfl ⟨rfl, (by repeat (first | exact Ch.refl _ _ | assumption | apply Ch.alloc | apply Ch.drew | apply Ch.drewN | (apply Ch.setCell; rotate_left; first | (left; simp; done) | (right; simp; done) | (right; simp; omega))))⟩
      · have h3 : 0 ≤ n := by omega
        go_enter Try.func69, Try.ntmps69
        go_wp2
        refine bodyPost_ret (v := .tuple #[.agg #[.string ⟨#[]⟩, .int .i64 1], .string ⟨#[]⟩]) (by simp [results, Try.results69, go_sem]) rfl ⟨rfl, (by repeat (first | exact Ch.refl _ _ | assumption | apply Ch.alloc | apply Ch.drew | apply Ch.drewN | (apply Ch.setCell; rotate_left; first | (left; simp; done) | (right; simp; done) | (right; simp; omega))))⟩
  · have hb : (e != 0) = true := by simpa using he
    have e1 : mBytes l e n = ([], l, e) := by simp [mBytes, he]
    rw [e1]
    go_enter Try.func69, Try.ntmps69
    go_wp2
    refine bodyPost_ret (v := .tuple #[.agg #[.string ⟨l.toArray⟩, .int .i64 e], .string ⟨#[]⟩]) (by simp [results, Try.results69, go_sem]) rfl ⟨rfl, (by repeat (first | exact Ch.refl _ _ | assumption | apply Ch.alloc | apply Ch.drew | apply Ch.drewN | (apply Ch.setCell; rotate_left; first | (left; simp; done) | (right; simp; done) | (right; simp; omega))))⟩
/-- The reference's Bytes where it begins with no error. -/
theorem numOf_step (v : Nat) (d : UInt8) (hv : v < 72057594037927936) : IntKind.u64.wrap (IntKind.u64.wrap ((v : Int) * 256) + (d.toNat : Int)) = ((v * 256 + d.toNat : Nat) : Int) := by
  have := d.toNat_lt
  rw [IntWalk.u64_in ((v : Int) * 256) (by omega), IntWalk.u64_in _ (by omega)]
  omega
set_option maxRecDepth 100000 in
theorem rTakeNum_nothing {l v : List UInt8} {e n : Int} (w : World) (e1 : mBytes l e 1 = ([], v, n)) (hn : (n != 0) = true) :
    Calls Try.prog 98 #[.agg #[.string ⟨l.toArray⟩, .int .i64 e]] w fun r w' => r = .returned (.tuple #[.agg #[.string ⟨v.toArray⟩, .int .i64 n], .int .u64 0]) ∧ Ch [] w w' := by
  have H1 := Lib.hid e1
  clear e1
  go_enter Try.func98, Try.ntmps98
  go_wp2_with (first | (refine op_box rfl 111 (.tmp 0) rfl _ rfl ?_; intro g w1 hb1 hg hlt hC1; obtain ⟨c0, c1, f0, f1⟩ := hb1.two) | (refine op_alloc rfl 111 rfl _ info_rb ?_; intro g2 w2 hb2 hg2 hlt2 hC2; obtain ⟨c0, c1, f0, f1⟩ := (hb1.ch0 hC2).two; obtain ⟨k0, k1, m0, m1⟩ := hb2.two))
  have hC := hC1.trans hC2
  have hlg : g < g2 := Nat.lt_of_lt_of_le hb1.lt hg2
  replace hb1 := hb1.ch0 hC2
  have hg2 : w.heap.size ≤ g2 := by omega
  clear hC1 hC2 hlt hlt2 c0 c1 f0 f1 k0 k1 m0 m1
  refine (rBytes_any _ _ 1 _).mono ?_
  rw [H1.out]
  clear H1
  rintro r w3 ⟨rfl, hC3⟩
  obtain ⟨c0, c1, f0, f1⟩ := (hb1.ch0 hC3).two
  obtain ⟨k0, k1, m0, m1⟩ := (hb2.ch0 hC3).two
  go_wp2
  replace hC := hC.trans hC3
  refine bodyPost_ret (v := .tuple #[.agg #[.string ⟨v.toArray⟩, .int .i64 n], .int .u64 0]) (by simp [results, Try.results98, go_sem, *]) rfl ⟨rfl, (by repeat (first | exact Ch.refl _ _ | assumption | apply Ch.alloc | apply Ch.drew | apply Ch.drewN | (apply Ch.setCell; rotate_left; first | (left; simp; done) | (right; simp; done) | (right; simp; omega))))⟩
set_option maxRecDepth 100000 in
theorem rTakeNum_high {h : UInt8} {t : List UInt8} (w : World) (h8 : 8 < h.toNat) :
    Calls Try.prog 98 #[.agg #[.string ⟨(h :: t).toArray⟩, .int .i64 0]] w fun r w' => r = .returned (.tuple #[.agg #[.string ⟨#[]⟩, .int .i64 2], .int .u64 0]) ∧ Ch [] w w' := by
  have e1 : mBytes (h :: t) 0 1 = ([h], t, 0) := by simp [mBytes]; omega
  go_enter Try.func98, Try.ntmps98
  go_wp2_with (first | (refine op_box rfl 111 (.tmp 0) rfl _ rfl ?_; intro g w1 hb1 hg hlt hC1; obtain ⟨c0, c1, f0, f1⟩ := hb1.two) | (refine op_alloc rfl 111 rfl _ info_rb ?_; intro g2 w2 hb2 hg2 hlt2 hC2; obtain ⟨c0, c1, f0, f1⟩ := (hb1.ch0 hC2).two; obtain ⟨k0, k1, m0, m1⟩ := hb2.two))
  have hC := hC1.trans hC2
  have hlg : g < g2 := Nat.lt_of_lt_of_le hb1.lt hg2
  replace hb1 := hb1.ch0 hC2
  have hg2 : w.heap.size ≤ g2 := by omega
  clear hC1 hC2 hlt hlt2 c0 c1 f0 f1 k0 k1 m0 m1
  refine (rBytes_any _ _ 1 _).mono ?_
  rw [e1]
  clear e1
  rintro r w3 ⟨rfl, hC3⟩
  obtain ⟨c0, c1, f0, f1⟩ := (hb1.ch0 hC3).two
  obtain ⟨k0, k1, m0, m1⟩ := (hb2.ch0 hC3).two
  go_wp2
  replace hC := hC.trans hC3
  refine bodyPost_ret (v := .tuple #[.agg #[.string ⟨#[]⟩, .int .i64 2], .int .u64 0]) (by simp [results, Try.results98, go_sem, *]) rfl ⟨rfl, (by repeat (first | exact Ch.refl _ _ | assumption | apply Ch.alloc | apply Ch.drew | apply Ch.drewN | (apply Ch.setCell; rotate_left; first | (left; simp; done) | (right; simp; done) | (right; simp; omega))))⟩
set_option maxRecDepth 100000 in
theorem rTakeNum_bad {h : UInt8} {t u : List UInt8} {e : Int} (w : World) (h8 : h.toNat ≤ 8) (e2 : mBytes t 0 (h.toNat : Int) = ([], u, e)) (he : (e != 0) = true) :
    Calls Try.prog 98 #[.agg #[.string ⟨(h :: t).toArray⟩, .int .i64 0]] w fun r w' => r = .returned (.tuple #[.agg #[.string ⟨u.toArray⟩, .int .i64 e], .int .u64 0]) ∧ Ch [] w w' := by
  have e1 : mBytes (h :: t) 0 1 = ([h], t, 0) := by simp [mBytes]; omega
  have H2 := Lib.hid e2
  clear e2
  go_enter Try.func98, Try.ntmps98
  go_wp2_with (first | (refine op_box rfl 111 (.tmp 0) rfl _ rfl ?_; intro g w1 hb1 hg hlt hC1; obtain ⟨c0, c1, f0, f1⟩ := hb1.two) | (refine op_alloc rfl 111 rfl _ info_rb ?_; intro g2 w2 hb2 hg2 hlt2 hC2; obtain ⟨c0, c1, f0, f1⟩ := (hb1.ch0 hC2).two; obtain ⟨k0, k1, m0, m1⟩ := hb2.two))
  have hC := hC1.trans hC2
  have hlg : g < g2 := Nat.lt_of_lt_of_le hb1.lt hg2
  replace hb1 := hb1.ch0 hC2
  have hg2 : w.heap.size ≤ g2 := by omega
  clear hC1 hC2 hlt hlt2 c0 c1 f0 f1 k0 k1 m0 m1
  refine (rBytes_any _ _ 1 _).mono ?_
  rw [e1]
  clear e1
  rintro r w3 ⟨rfl, hC3⟩
  obtain ⟨c0, c1, f0, f1⟩ := (hb1.ch0 hC3).two
  obtain ⟨k0, k1, m0, m1⟩ := (hb2.ch0 hC3).two
  go_wp2_with fail
  refine (rBytes_any _ _ (h.toNat : Int) _).mono ?_
  rw [H2.out]
  rintro r w4 ⟨rfl, hC4⟩
  have hB1 := ((hb1.ch0 hC3).set_ 0 (.string ⟨t.toArray⟩)).set_ 1 (.int .i64 0)
  have hB2 := ((hb2.ch0 hC3).far (p := ⟨g, 0, none⟩) (by simp; omega) (.string ⟨t.toArray⟩)).far (p := ⟨g, 1, none⟩) (by simp; omega) (.int .i64 0)
  replace hC : Ch [] w w4 := (((hC.trans hC3).setCell (p := ⟨g, 0, none⟩) (.inr hg) _).setCell (p := ⟨g, 1, none⟩) (.inr hg) _).trans hC4
  clear c0 c1 f0 f1 k0 k1 m0 m1
  obtain ⟨c0, c1, f0, f1⟩ := (hB1.ch0 hC4).two
  obtain ⟨k0, k1, m0, m1⟩ := (hB2.ch0 hC4).two
  clear hB1 hB2 hC4 hC3 hb1 hb2 H2
  go_wp2
  refine bodyPost_ret (v := .tuple #[.agg #[.string ⟨u.toArray⟩, .int .i64 e], .int .u64 0]) (by simp [results, Try.results98, go_sem, *]) rfl ⟨rfl, (by repeat (first | exact Ch.refl _ _ | assumption | apply Ch.alloc | apply Ch.drew | apply Ch.drewN | (apply Ch.setCell; rotate_left; first | (left; simp; done) | (right; simp; done) | (right; simp; omega))))⟩
set_option maxRecDepth 100000 in
theorem rTakeNum_lead0 {h : UInt8} {t s u : List UInt8} (w : World) (h8 : h.toNat ≤ 8) (e2 : mBytes t 0 (h.toNat : Int) = (0 :: s, u, 0)) :
    Calls Try.prog 98 #[.agg #[.string ⟨(h :: t).toArray⟩, .int .i64 0]] w fun r w' => r = .returned (.tuple #[.agg #[.string ⟨#[]⟩, .int .i64 2], .int .u64 0]) ∧ Ch [] w w' := by
  have e1 : mBytes (h :: t) 0 1 = ([h], t, 0) := by simp [mBytes]; omega
  have H2 := Lib.hid e2
  clear e2
  go_enter Try.func98, Try.ntmps98
  go_wp2_with (first | (refine op_box rfl 111 (.tmp 0) rfl _ rfl ?_; intro g w1 hb1 hg hlt hC1; obtain ⟨c0, c1, f0, f1⟩ := hb1.two) | (refine op_alloc rfl 111 rfl _ info_rb ?_; intro g2 w2 hb2 hg2 hlt2 hC2; obtain ⟨c0, c1, f0, f1⟩ := (hb1.ch0 hC2).two; obtain ⟨k0, k1, m0, m1⟩ := hb2.two))
  have hC := hC1.trans hC2
  have hlg : g < g2 := Nat.lt_of_lt_of_le hb1.lt hg2
  replace hb1 := hb1.ch0 hC2
  have hg2 : w.heap.size ≤ g2 := by omega
  clear hC1 hC2 hlt hlt2 c0 c1 f0 f1 k0 k1 m0 m1
  refine (rBytes_any _ _ 1 _).mono ?_
  rw [e1]
  clear e1
  rintro r w3 ⟨rfl, hC3⟩
  obtain ⟨c0, c1, f0, f1⟩ := (hb1.ch0 hC3).two
  obtain ⟨k0, k1, m0, m1⟩ := (hb2.ch0 hC3).two
  go_wp2_with fail
  refine (rBytes_any _ _ (h.toNat : Int) _).mono ?_
  rw [H2.out]
  rintro r w4 ⟨rfl, hC4⟩
  have hB1 := ((hb1.ch0 hC3).set_ 0 (.string ⟨t.toArray⟩)).set_ 1 (.int .i64 0)
  have hB2 := ((hb2.ch0 hC3).far (p := ⟨g, 0, none⟩) (by simp; omega) (.string ⟨t.toArray⟩)).far (p := ⟨g, 1, none⟩) (by simp; omega) (.int .i64 0)
  replace hC : Ch [] w w4 := (((hC.trans hC3).setCell (p := ⟨g, 0, none⟩) (.inr hg) _).setCell (p := ⟨g, 1, none⟩) (.inr hg) _).trans hC4
  clear c0 c1 f0 f1 k0 k1 m0 m1
  obtain ⟨c0, c1, f0, f1⟩ := (hB1.ch0 hC4).two
  obtain ⟨k0, k1, m0, m1⟩ := (hB2.ch0 hC4).two
  clear hB1 hB2 hC4 hC3 hb1 hb2 H2
  go_wp2
  refine bodyPost_ret (v := .tuple #[.agg #[.string ⟨#[]⟩, .int .i64 2], .int .u64 0]) (by simp [results, Try.results98, go_sem, *]) rfl ⟨rfl, (by repeat (first | exact Ch.refl _ _ | assumption | apply Ch.alloc | apply Ch.drew | apply Ch.drewN | (apply Ch.setCell; rotate_left; first | (left; simp; done) | (right; simp; done) | (right; simp; omega))))⟩
set_option maxRecDepth 100000 in
theorem rTakeNum_empty {h : UInt8} {t u : List UInt8} (w : World) (h8 : h.toNat ≤ 8) (e2 : mBytes t 0 (h.toNat : Int) = ([], u, 0)) :
    Calls Try.prog 98 #[.agg #[.string ⟨(h :: t).toArray⟩, .int .i64 0]] w fun r w' => r = .returned (.tuple #[.agg #[.string ⟨u.toArray⟩, .int .i64 0], .int .u64 0]) ∧ Ch [] w w' := by
  have e1 : mBytes (h :: t) 0 1 = ([h], t, 0) := by simp [mBytes]; omega
  have H2 := Lib.hid e2
  clear e2
  go_enter Try.func98, Try.ntmps98
  go_wp2_with (first | (refine op_box rfl 111 (.tmp 0) rfl _ rfl ?_; intro g w1 hb1 hg hlt hC1; obtain ⟨c0, c1, f0, f1⟩ := hb1.two) | (refine op_alloc rfl 111 rfl _ info_rb ?_; intro g2 w2 hb2 hg2 hlt2 hC2; obtain ⟨c0, c1, f0, f1⟩ := (hb1.ch0 hC2).two; obtain ⟨k0, k1, m0, m1⟩ := hb2.two))
  have hC := hC1.trans hC2
  have hlg : g < g2 := Nat.lt_of_lt_of_le hb1.lt hg2
  replace hb1 := hb1.ch0 hC2
  have hg2 : w.heap.size ≤ g2 := by omega
  clear hC1 hC2 hlt hlt2 c0 c1 f0 f1 k0 k1 m0 m1
  refine (rBytes_any _ _ 1 _).mono ?_
  rw [e1]
  clear e1
  rintro r w3 ⟨rfl, hC3⟩
  obtain ⟨c0, c1, f0, f1⟩ := (hb1.ch0 hC3).two
  obtain ⟨k0, k1, m0, m1⟩ := (hb2.ch0 hC3).two
  go_wp2_with fail
  refine (rBytes_any _ _ (h.toNat : Int) _).mono ?_
  rw [H2.out]
  rintro r w4 ⟨rfl, hC4⟩
  have hB1 := ((hb1.ch0 hC3).set_ 0 (.string ⟨t.toArray⟩)).set_ 1 (.int .i64 0)
  have hB2 := ((hb2.ch0 hC3).far (p := ⟨g, 0, none⟩) (by simp; omega) (.string ⟨t.toArray⟩)).far (p := ⟨g, 1, none⟩) (by simp; omega) (.int .i64 0)
  replace hC : Ch [] w w4 := (((hC.trans hC3).setCell (p := ⟨g, 0, none⟩) (.inr hg) _).setCell (p := ⟨g, 1, none⟩) (.inr hg) _).trans hC4
  clear c0 c1 f0 f1 k0 k1 m0 m1
  obtain ⟨c0, c1, f0, f1⟩ := (hB1.ch0 hC4).two
  obtain ⟨k0, k1, m0, m1⟩ := (hB2.ch0 hC4).two
  clear hB1 hB2 hC4 hC3 hb1 hb2 H2
  go_wp2
  refine wp_loop_rounds 1 ?_
  rw [rounds_succ]
  go_wp2
  refine bodyPost_ret (v := .tuple #[.agg #[.string ⟨u.toArray⟩, .int .i64 0], .int .u64 0]) (by simp [results, Try.results98, go_sem, *]) rfl ⟨rfl, (by repeat (first | exact Ch.refl _ _ | assumption | apply Ch.alloc | apply Ch.drew | apply Ch.drewN | (apply Ch.setCell; rotate_left; first | (left; simp; done) | (right; simp; done) | (right; simp; omega))))⟩
set_option maxRecDepth 100000 in
theorem rTakeNum_ok {h : UInt8} {t s u : List UInt8} {c : UInt8} (w : World) (h8 : h.toNat ≤ 8) (e2 : mBytes t 0 (h.toNat : Int) = (c :: s, u, 0)) (h0 : ((c.toNat : Int) == 0) = false) (hl : s.length + 1 ≤ 8) :
    Calls Try.prog 98 #[.agg #[.string ⟨(h :: t).toArray⟩, .int .i64 0]] w fun r w' => r = .returned (.tuple #[.agg #[.string ⟨u.toArray⟩, .int .i64 0], .int .u64 (numOf (c :: s))]) ∧ Ch [] w w' := by
  have e1 : mBytes (h :: t) 0 1 = ([h], t, 0) := by simp [mBytes]; omega
  have H2 := Lib.hid e2
  clear e2
  go_enter Try.func98, Try.ntmps98
  go_wp2_with (first | (refine op_box rfl 111 (.tmp 0) rfl _ rfl ?_; intro g w1 hb1 hg hlt hC1; obtain ⟨c0, c1, f0, f1⟩ := hb1.two) | (refine op_alloc rfl 111 rfl _ info_rb ?_; intro g2 w2 hb2 hg2 hlt2 hC2; obtain ⟨c0, c1, f0, f1⟩ := (hb1.ch0 hC2).two; obtain ⟨k0, k1, m0, m1⟩ := hb2.two))
  have hC := hC1.trans hC2
  have hlg : g < g2 := Nat.lt_of_lt_of_le hb1.lt hg2
  replace hb1 := hb1.ch0 hC2
  have hg2 : w.heap.size ≤ g2 := by omega
  clear hC1 hC2 hlt hlt2 c0 c1 f0 f1 k0 k1 m0 m1
  refine (rBytes_any _ _ 1 _).mono ?_
  rw [e1]
  clear e1
  rintro r w3 ⟨rfl, hC3⟩
  obtain ⟨c0, c1, f0, f1⟩ := (hb1.ch0 hC3).two
  obtain ⟨k0, k1, m0, m1⟩ := (hb2.ch0 hC3).two
  go_wp2_with fail
  refine (rBytes_any _ _ (h.toNat : Int) _).mono ?_
  rw [H2.out]
  rintro r w4 ⟨rfl, hC4⟩
  have hB1 := ((hb1.ch0 hC3).set_ 0 (.string ⟨t.toArray⟩)).set_ 1 (.int .i64 0)
  have hB2 := ((hb2.ch0 hC3).far (p := ⟨g, 0, none⟩) (by simp; omega) (.string ⟨t.toArray⟩)).far (p := ⟨g, 1, none⟩) (by simp; omega) (.int .i64 0)
  replace hC : Ch [] w w4 := (((hC.trans hC3).setCell (p := ⟨g, 0, none⟩) (.inr hg) _).setCell (p := ⟨g, 1, none⟩) (.inr hg) _).trans hC4
  clear c0 c1 f0 f1 k0 k1 m0 m1
  obtain ⟨c0, c1, f0, f1⟩ := (hB1.ch0 hC4).two
  obtain ⟨k0, k1, m0, m1⟩ := (hB2.ch0 hC4).two
  clear hB1 hB2 hC4 hC3 hb1 hb2 H2
  go_wp2
  go_loop [7, 8] (fun v i => ∃ k : Nat, k ≤ (c :: s).length ∧ i = .int .i64 k ∧ v = .int .u64 (numOf ((c :: s).take k) : Nat)) (fun _ i => (c :: s).length - (intOf i).toNat)
  case atStart => exact ⟨0, Nat.zero_le _, rfl, rfl⟩
  case round =>
    obtain ⟨k, hk, rfl, rfl⟩ := hrel
    by_cases hlt : k < (c :: s).length
    · have hd := List.getElem?_eq_getElem hlt
      have ht := take_snoc_at (c :: s) k _ hd
      have hn1 := numOf_lt ((c :: s).take k)
      have hn2 := pow_le8 ((c :: s).take k).length (by simp at hlt ⊢; omega)
      have hor := numOf_step (numOf ((c :: s).take k)) ((c :: s)[k]) (by omega)
      have HT := Lib.hid ht
      have HO := Lib.hid hor
      clear ht hor hn1 hn2 hd
      have hlt2 : k < s.length + 1 := by simpa using hlt
      go_wp2
      go_round
      case rel => exact ⟨k + 1, by simp; omega, by go_num, by rw [HT.out, numOf_snoc, HO.out]⟩
      case measure => simp [intOf]; omega
    · have hge : s.length + 1 ≤ k := by simp at hlt; omega
      have hnt : numOf ((c :: s).take k) = numOf (c :: s) := by rw [List.take_of_length_le (by simp; omega)]
      have HN := Lib.hid hnt
      clear hnt
      go_wp2
      refine bodyPost_ret (v := .tuple #[.agg #[.string ⟨u.toArray⟩, .int .i64 0], .int .u64 (numOf ((c :: s).take k))]) (by simp [results, Try.results98, go_sem, *]) rfl ⟨by rw [HN.out], (by repeat (first | exact Ch.refl _ _ | assumption | apply Ch.alloc | apply Ch.drew | apply Ch.drewN | (apply Ch.setCell; rotate_left; first | (left; simp; done) | (right; simp; done) | (right; simp; omega))))⟩
theorem rTakeNum_any (l : List UInt8) (e : Int) (w : World) :
    Calls Try.prog 98 #[.agg #[.string ⟨l.toArray⟩, .int .i64 e]] w fun r w' => r = .returned (.tuple #[.agg #[.string ⟨(mNum l e).2.1.toArray⟩, .int .i64 (mNum l e).2.2], .int .u64 (mNum l e).1]) ∧ Ch [] w w' := by
  unfold mNum
  by_cases he : e = 0
  · subst he
    rw [if_pos rfl]
    cases l with
    | nil => exact rTakeNum_nothing (v := []) (n := 1) w rfl rfl
    | cons h t =>
      simp only
      by_cases h8 : 8 < h.toNat
      · rw [if_pos h8]; exact rTakeNum_high w h8
      · rw [if_neg h8]
        by_cases ht : t.length < h.toNat
        · rw [if_pos ht]
          exact rTakeNum_bad (u := []) (e := 1) w (by omega) (by simp [mBytes]; omega) rfl
        · rw [if_neg ht]
          have e2 : mBytes t 0 (h.toNat : Int) = (t.take h.toNat, t.drop h.toNat, 0) := by simp [mBytes]; omega
          have hl : (t.take h.toNat).length ≤ 8 := by simp; omega
          cases hs : t.take h.toNat with
          | nil =>
            rw [hs] at e2
            simp only [List.head?_nil, reduceCtorEq, if_false]
            exact rTakeNum_empty w (by omega) e2
          | cons c s =>
            rw [hs] at e2 hl
            simp only [List.head?_cons, Option.some.injEq]
            by_cases hc : c = 0
            · subst hc
              rw [if_pos rfl]
              exact rTakeNum_lead0 w (by omega) e2
            · rw [if_neg hc]
              refine rTakeNum_ok w (by omega) e2 ?_ (by simpa using hl)
              simp only [beq_eq_false_iff_ne, ne_eq]
              intro h0
              exact hc (UInt8.toNat_inj.1 (by simpa using h0))
  · rw [if_neg he]
    exact rTakeNum_nothing (n := e) w (by simp [mBytes, he]) (by simpa using he)
end Go.Proofs.Ytlhedbjjlomniaa
set_option linter.unusedSimpArgs false
set_option linter.unusedVariables false
namespace Go.Proofs.Ytlhedbjjlomniaa
open Go.RowKit
attribute [local go_sem] extract_mid extract_drop bget bsize wrap64_u8 i64_u8 u64_u8 bappend
set_option maxRecDepth 100000 in
theorem rInt_err {l u : List UInt8} {e f top : Int} {n : Nat} (w : World) (hm : mNum l e = (n, u, f)) (hf : (f != 0) = true) :
    Calls Try.prog 68 #[.agg #[.string ⟨l.toArray⟩, .int .i64 e], .int .i64 top] w fun r w' => r = .returned (.tuple #[.agg #[.string ⟨u.toArray⟩, .int .i64 f], .int .i64 0]) ∧ Ch [] w w' := by
  have HM := Lib.hid hm
  clear hm
  go_enter Try.func68, Try.ntmps68
  go_wp2_with (first | (refine op_box rfl 111 (.tmp 0) rfl _ rfl ?_; intro g w1 hb1 hg hlt hC1; obtain ⟨c0, c1, f0, f1⟩ := hb1.two) | (refine op_alloc rfl 111 rfl _ info_rb ?_; intro g2 w2 hb2 hg2 hlt2 hC2; obtain ⟨c0, c1, f0, f1⟩ := (hb1.ch0 hC2).two; obtain ⟨k0, k1, m0, m1⟩ := hb2.two))
  have hC := hC1.trans hC2
  have hlg : g < g2 := Nat.lt_of_lt_of_le hb1.lt hg2
  replace hb1 := hb1.ch0 hC2
  have hg2 : w.heap.size ≤ g2 := by omega
  clear hC1 hC2 hlt hlt2 c0 c1 f0 f1 k0 k1 m0 m1
  refine (rTakeNum_any l e _).mono ?_
  rw [HM.out]
  rintro r w3 ⟨rfl, hC3⟩
  obtain ⟨c0, c1, f0, f1⟩ := (hb1.ch0 hC3).two
  obtain ⟨k0, k1, m0, m1⟩ := (hb2.ch0 hC3).two
  replace hC := hC.trans hC3
  go_wp2
  refine bodyPost_ret (v := .tuple #[.agg #[.string ⟨u.toArray⟩, .int .i64 f], .int .i64 0]) (by simp [results, Try.results68, go_sem, *]) rfl ⟨rfl, (by repeat (first | exact Ch.refl _ _ | assumption | apply Ch.alloc | apply Ch.drew | apply Ch.drewN | (apply Ch.setCell; rotate_left; first | (left; simp; done) | (right; simp; done) | (right; simp; omega))))⟩
set_option maxRecDepth 100000 in
theorem rInt_ok {l u : List UInt8} {e top : Int} {n : Nat} (w : World) (hm : mNum l e = (n, u, 0)) (ht : top ≤ 9223372036854775807) (hn : (n : Int) ≤ max top 0) :
    Calls Try.prog 68 #[.agg #[.string ⟨l.toArray⟩, .int .i64 e], .int .i64 top] w fun r w' => r = .returned (.tuple #[.agg #[.string ⟨u.toArray⟩, .int .i64 0], .int .i64 n]) ∧ Ch [] w w' := by
  have HM := Lib.hid hm
  have h1 : max top 0 ≤ 9223372036854775807 := by omega
  have h2 : 0 ≤ max top 0 := by omega
  clear hm
  go_enter Try.func68, Try.ntmps68
  go_wp2_with (first | (refine op_box rfl 111 (.tmp 0) rfl _ rfl ?_; intro g w1 hb1 hg hlt hC1; obtain ⟨c0, c1, f0, f1⟩ := hb1.two) | (refine op_alloc rfl 111 rfl _ info_rb ?_; intro g2 w2 hb2 hg2 hlt2 hC2; obtain ⟨c0, c1, f0, f1⟩ := (hb1.ch0 hC2).two; obtain ⟨k0, k1, m0, m1⟩ := hb2.two))
  have hC := hC1.trans hC2
  have hlg : g < g2 := Nat.lt_of_lt_of_le hb1.lt hg2
  replace hb1 := hb1.ch0 hC2
  have hg2 : w.heap.size ≤ g2 := by omega
  clear hC1 hC2 hlt hlt2 c0 c1 f0 f1 k0 k1 m0 m1
  refine (rTakeNum_any l e _).mono ?_
  rw [HM.out]
  rintro r w3 ⟨rfl, hC3⟩
  obtain ⟨c0, c1, f0, f1⟩ := (hb1.ch0 hC3).two
  obtain ⟨k0, k1, m0, m1⟩ := (hb2.ch0 hC3).two
  replace hC := hC.trans hC3
  go_wp2
  all_goals
    refine bodyPost_ret (v := .tuple #[.agg #[.string ⟨u.toArray⟩, .int .i64 0], .int .i64 n]) (by simp [results, Try.results68, go_sem, *]) rfl ⟨rfl, (by repeat (first | exact Ch.refl _ _ | assumption | apply Ch.alloc | apply Ch.drew | apply Ch.drewN | (apply Ch.setCell; rotate_left; first | (left; simp; done) | (right; simp; done) | (right; simp; omega))))⟩
set_option maxRecDepth 100000 in
theorem rInt_big {l u : List UInt8} {e top : Int} {n : Nat} (w : World) (hm : mNum l e = (n, u, 0)) (ht : top ≤ 9223372036854775807) (hn : max top 0 < (n : Int)) :
    Calls Try.prog 68 #[.agg #[.string ⟨l.toArray⟩, .int .i64 e], .int .i64 top] w fun r w' => r = .returned (.tuple #[.agg #[.string ⟨#[]⟩, .int .i64 5], .int .i64 0]) ∧ Ch [] w w' := by
  have HM := Lib.hid hm
  have h1 : max top 0 ≤ 9223372036854775807 := by omega
  have h2 : 0 ≤ max top 0 := by omega
  clear hm
  go_enter Try.func68, Try.ntmps68
  go_wp2_with (first | (refine op_box rfl 111 (.tmp 0) rfl _ rfl ?_; intro g w1 hb1 hg hlt hC1; obtain ⟨c0, c1, f0, f1⟩ := hb1.two) | (refine op_alloc rfl 111 rfl _ info_rb ?_; intro g2 w2 hb2 hg2 hlt2 hC2; obtain ⟨c0, c1, f0, f1⟩ := (hb1.ch0 hC2).two; obtain ⟨k0, k1, m0, m1⟩ := hb2.two))
  have hC := hC1.trans hC2
  have hlg : g < g2 := Nat.lt_of_lt_of_le hb1.lt hg2
  replace hb1 := hb1.ch0 hC2
  have hg2 : w.heap.size ≤ g2 := by omega
  clear hC1 hC2 hlt hlt2 c0 c1 f0 f1 k0 k1 m0 m1
  refine (rTakeNum_any l e _).mono ?_
  rw [HM.out]
  rintro r w3 ⟨rfl, hC3⟩
  obtain ⟨c0, c1, f0, f1⟩ := (hb1.ch0 hC3).two
  obtain ⟨k0, k1, m0, m1⟩ := (hb2.ch0 hC3).two
  replace hC := hC.trans hC3
  go_wp2
  all_goals
    refine bodyPost_ret (v := .tuple #[.agg #[.string ⟨#[]⟩, .int .i64 5], .int .i64 0]) (by simp [results, Try.results68, go_sem, *]) rfl ⟨rfl, (by repeat (first | exact Ch.refl _ _ | assumption | apply Ch.alloc | apply Ch.drew | apply Ch.drewN | (apply Ch.setCell; rotate_left; first | (left; simp; done) | (right; simp; done) | (right; simp; omega))))⟩
theorem rInt_any (l : List UInt8) (e top : Int) (ht : top ≤ 9223372036854775807) (w : World) :
    Calls Try.prog 68 #[.agg #[.string ⟨l.toArray⟩, .int .i64 e], .int .i64 top] w fun r w' => r = .returned (.tuple #[.agg #[.string ⟨(mInt l e top).2.1.toArray⟩, .int .i64 (mInt l e top).2.2], .int .i64 (mInt l e top).1]) ∧ Ch [] w w' := by
  obtain ⟨n, u, f, hm⟩ : ∃ n u f, mNum l e = (n, u, f) := ⟨_, _, _, rfl⟩
  unfold mInt
  rw [hm]
  simp only
  by_cases hf : f = 0
  · subst hf
    rw [if_pos rfl]
    by_cases hb : max top 0 < (n : Int)
    · rw [if_pos hb]; exact rInt_big w hm ht hb
    · rw [if_neg hb]; exact rInt_ok w hm ht (by omega)
  · rw [if_neg hf]
    exact rInt_err w hm (by simpa using hf)
end Go.Proofs.Ytlhedbjjlomniaa
set_option linter.unusedSimpArgs false
set_option linter.unusedVariables false
namespace Go.Proofs.Ytlhedbjjlomniaa
open Go.RowKit
attribute [local go_sem] extract_mid extract_drop bget bsize wrap64_u8 i64_u8 u64_u8 bappend
section
variable {P : Program} {w : World} {o : Oper} {a : Act} {Q : Exit → Act → World → Prop} {K : Act → World → Prop} {L R : List SProp}
theorem freeze_ch (w : World) (g n : Nat) : Ch [g] w (w.freeze ⟨g, 0, none⟩ n) := by
  unfold World.freeze
  split
  · exact Ch.refl _ _
  · exact ⟨rfl, rfl, rfl, by simp, fun k hk hb => by
      simp only [Array.getElem?_modify]
      rw [if_neg (fun e => hb (by simp [e]))]⟩
/-- unsafe.SliceData of a slice with room. -/
theorem ex_sliceData {x : Operand} {t : TypeId} (ho : o.op = .call { callee := .builtin .unsafeSliceData, args := #[x], argTypes := #[t] }) {ad : Addr} {n c : Nat} (hx : a.eval x = .slice (some ad) n c) (hc : c ≠ 0) :
    (execOp a.eval o).run P w = .ok (.value (.pointer (some ad))) w := by
  have hr := Lib.run_unsafeSliceData_row (P := P) w #[t] o.type ad n c hc
  unfold execOp
  simp only [ho, resolve, invoke, builtin, Sem.run_bind, Sem.run_pure, Result.andThen_ok, List.map_toArray, List.map_cons, List.map_nil, hx, hr]
end
end Go.Proofs.Ytlhedbjjlomniaa
set_option linter.unusedSimpArgs false
set_option linter.unusedVariables false
namespace Go.Proofs.Ytlhedbjjlomniaa
/-- A word, turned to the right. -/
def rotr (x : UInt32) (n : Nat) : UInt32 := UInt32.ofNat (x.toNat / 2 ^ n + x.toNat * 2 ^ (32 - n) % 4294967296)
def shr32 (x : UInt32) (n : Nat) : UInt32 := UInt32.ofNat (x.toNat / 2 ^ n)
def K64 : List UInt32 := [
  0x428a2f98, 0x71374491, 0xb5c0fbcf, 0xe9b5dba5, 0x3956c25b, 0x59f111f1, 0x923f82a4, 0xab1c5ed5,
  0xd807aa98, 0x12835b01, 0x243185be, 0x550c7dc3, 0x72be5d74, 0x80deb1fe, 0x9bdc06a7, 0xc19bf174,
  0xe49b69c1, 0xefbe4786, 0x0fc19dc6, 0x240ca1cc, 0x2de92c6f, 0x4a7484aa, 0x5cb0a9dc, 0x76f988da,
  0x983e5152, 0xa831c66d, 0xb00327c8, 0xbf597fc7, 0xc6e00bf3, 0xd5a79147, 0x06ca6351, 0x14292967,
  0x27b70a85, 0x2e1b2138, 0x4d2c6dfc, 0x53380d13, 0x650a7354, 0x766a0abb, 0x81c2c92e, 0x92722c85,
  0xa2bfe8a1, 0xa81a664b, 0xc24b8b70, 0xc76c51a3, 0xd192e819, 0xd6990624, 0xf40e3585, 0x106aa070,
  0x19a4c116, 0x1e376c08, 0x2748774c, 0x34b0bcb5, 0x391c0cb3, 0x4ed8aa4a, 0x5b9cca4f, 0x682e6ff3,
  0x748f82ee, 0x78a5636f, 0x84c87814, 0x8cc70208, 0x90befffa, 0xa4506ceb, 0xbef9a3f7, 0xc67178f2]
theorem K64_len : K64.length = 64 := by decide
def s0 (x : UInt32) : UInt32 := rotr x 7 ^^^ rotr x 18 ^^^ shr32 x 3
def s1 (x : UInt32) : UInt32 := rotr x 17 ^^^ rotr x 19 ^^^ shr32 x 10
def S1 (e : UInt32) : UInt32 := rotr e 6 ^^^ rotr e 11 ^^^ rotr e 25
def S0 (a : UInt32) : UInt32 := rotr a 2 ^^^ rotr a 13 ^^^ rotr a 22
def chf (e f g : UInt32) : UInt32 := (e &&& f) ||| (~~~e &&& g)
def maj (a b c : UInt32) : UInt32 := (a &&& (b ||| c)) ||| (b &&& c)
theorem chf_xor (e f g : UInt32) : (e &&& f) ^^^ (~~~e &&& g) = chf e f g := by
  unfold chf
  apply UInt32.toBitVec_inj.1
  apply BitVec.eq_of_getLsbD_eq
  intro i hi
  simp only [UInt32.toBitVec_and, UInt32.toBitVec_or, UInt32.toBitVec_xor, UInt32.toBitVec_not, BitVec.getLsbD_and, BitVec.getLsbD_or, BitVec.getLsbD_xor, BitVec.getLsbD_not]
  cases e.toBitVec.getLsbD i <;> cases f.toBitVec.getLsbD i <;> cases g.toBitVec.getLsbD i <;> simp
theorem maj_xor (a b c : UInt32) : (a &&& b) ^^^ (a &&& c) ^^^ (b &&& c) = maj a b c := by
  unfold maj
  apply UInt32.toBitVec_inj.1
  apply BitVec.eq_of_getLsbD_eq
  intro i hi
  simp only [UInt32.toBitVec_and, UInt32.toBitVec_or, UInt32.toBitVec_xor, BitVec.getLsbD_and, BitVec.getLsbD_or, BitVec.getLsbD_xor]
  cases a.toBitVec.getLsbD i <;> cases b.toBitVec.getLsbD i <;> cases c.toBitVec.getLsbD i <;> simp
/-- Four bytes as a word. -/
def word4 (a b c d : UInt8) : UInt32 := UInt32.ofNat (a.toNat * 16777216 + b.toNat * 65536 + c.toNat * 256 + d.toNat)
/-- The next word of the schedule, of those so far. -/
def nextW (l : List UInt32) : UInt32 := l.getD (l.length - 16) 0 + l.getD (l.length - 7) 0 + s0 (l.getD (l.length - 15) 0) + s1 (l.getD (l.length - 2) 0)
def wordAt (b : List UInt8) (i : Nat) : UInt32 := word4 (b.getD (4 * i) 0) (b.getD (4 * i + 1) 0) (b.getD (4 * i + 2) 0) (b.getD (4 * i + 3) 0)
/-- The first k words of a block's schedule. -/
def sched (b : List UInt8) : Nat → List UInt32
  | 0 => []
  | k + 1 => sched b k ++ [if k < 16 then wordAt b k else nextW (sched b k)]
theorem sched_len (b : List UInt8) (k : Nat) : (sched b k).length = k := by
  induction k with
  | zero => rfl
  | succ k ih => simp [sched, ih]
/-- Eight words. -/
structure W8 where
  (a b c d e f g h : UInt32)
def W8.list (s : W8) : List UInt32 := [s.a, s.b, s.c, s.d, s.e, s.f, s.g, s.h]
def rnd (k w : UInt32) (s : W8) : W8 :=
  let t := s.h + k + w + S1 s.e + chf s.e s.f s.g
  let u := S0 s.a + maj s.a s.b s.c
  ⟨t + u, s.a, s.b, s.c, s.d + t, s.e, s.f, s.g⟩
/-- The first n rounds. -/
def rnds (ws : List UInt32) (s : W8) : Nat → W8
  | 0 => s
  | n + 1 => rnd (K64.getD n 0) (ws.getD n 0) (rnds ws s n)
def W8.add (s t : W8) : W8 := ⟨s.a + t.a, s.b + t.b, s.c + t.c, s.d + t.d, s.e + t.e, s.f + t.f, s.g + t.g, s.h + t.h⟩
/-- The state behind a block. -/
def mix (s : W8) (b : List UInt8) : W8 := s.add (rnds (sched b 64) s 64)
def iv0 : W8 := ⟨0x6a09e667, 0xbb67ae85, 0x3c6ef372, 0xa54ff53a, 0x510e527f, 0x9b05688c, 0x1f83d9ab, 0x5be0cd19⟩
/-- The state behind n whole blocks. -/
def mixN (s : W8) : Nat → List UInt8 → W8
  | 0, _ => s
  | n + 1, l => mixN (mix s (l.take 64)) n (l.drop 64)
theorem mixN_add (s : W8) (n m : Nat) (l : List UInt8) : mixN s (n + m) l = mixN (mixN s n l) m (l.drop (64 * n)) := by
  induction n generalizing s l with
  | zero => simp [mixN]
  | succ n ih =>
    rw [Nat.add_right_comm]
    simp only [mixN]
    rw [ih, List.drop_drop]
    congr 2
    omega
theorem mixN_app (s : W8) (n : Nat) (l m : List UInt8) (h : 64 * n ≤ l.length) : mixN s n (l ++ m) = mixN s n l := by
  induction n generalizing s l with
  | zero => rfl
  | succ n ih =>
    simp only [mixN]
    rw [List.take_append_of_le_length (by omega), List.drop_append_of_le_length (by omega), ih _ _ (by simp; omega)]
/-- A word's bytes. -/
def wbytes (x : UInt32) : List UInt8 := [UInt8.ofNat (x.toNat / 16777216), UInt8.ofNat (x.toNat / 65536), UInt8.ofNat (x.toNat / 256), UInt8.ofNat x.toNat]
def W8.bytes (s : W8) : List UInt8 := s.list.flatMap wbytes
theorem W8.bytes_len (s : W8) : s.bytes.length = 32 := by simp [W8.bytes, W8.list, wbytes]
/-- How many zeros follow the byte 128. -/
def zerosN (n : Nat) : Nat := (119 - n % 64) % 64
/-- A length's eight bytes, in bits. -/
def lenBytes (n : Nat) : List UInt8 := (List.range 8).map fun i => UInt8.ofNat (n * 8 / 256 ^ (7 - i))
def pad (l : List UInt8) : List UInt8 := l ++ (128 :: List.replicate (zerosN l.length) 0) ++ lenBytes l.length
theorem pad_len (l : List UInt8) : (pad l).length = 64 * ((l.length + 8) / 64 + 1) := by
  simp [pad, lenBytes, zerosN]
  omega
/-- The sum. -/
def sha (l : List UInt8) : List UInt8 := (mixN iv0 ((l.length + 8) / 64 + 1) (pad l)).bytes
theorem sha_len (l : List UInt8) : (sha l).length = 32 := W8.bytes_len _
end Go.Proofs.Ytlhedbjjlomniaa
set_option linter.unusedSimpArgs false
set_option linter.unusedVariables false
namespace Go.Proofs.Ytlhedbjjlomniaa
open Go.RowKit
attribute [local go_sem] extract_mid extract_drop bget bsize wrap64_u8 i64_u8 u64_u8 bappend
/-- A word as the number that a slot holds. -/
def w32 (x : UInt32) : Int := (x.toNat : Int)
theorem w32_lt (x : UInt32) : 0 ≤ w32 x ∧ w32 x ≤ 4294967295 := by have := x.toNat_lt; unfold w32; omega
theorem u32_add (a b : UInt32) : IntKind.u32.wrap (w32 a + w32 b) = w32 (a + b) := by
  unfold w32
  rw [IntKind.wrap_u32, UInt32.toNat_add]
  omega
theorem u32_xor_w (a b : UInt32) : bits BinOp.xor IntKind.u32 (w32 a) (w32 b) = w32 (a ^^^ b) := by
  unfold w32
  have h1 := a.toNat_lt; have h2 := b.toNat_lt
  rw [u32_xor_nat _ _ (by omega) (by omega), UInt32.toNat_xor]
theorem u32_and_w (a b : UInt32) : bits BinOp.and IntKind.u32 (w32 a) (w32 b) = w32 (a &&& b) := by
  unfold w32
  have h1 := a.toNat_lt; have h2 := b.toNat_lt
  rw [u32_and_nat _ _ (by omega) (by omega), UInt32.toNat_and]
theorem u32_or_w (a b : UInt32) : bits BinOp.or IntKind.u32 (w32 a) (w32 b) = w32 (a ||| b) := by
  unfold w32
  have h1 := a.toNat_lt; have h2 := b.toNat_lt
  rw [u32_or_nat _ _ (by omega) (by omega), UInt32.toNat_or]
theorem w32_shr (x : UInt32) (n : Nat) (k : Int) (hk : k = 2 ^ n) : w32 x / k = w32 (shr32 x n) := by
  have h1 := x.toNat_lt
  unfold w32 shr32
  have h2 : x.toNat / 2 ^ n ≤ x.toNat := Nat.div_le_self _ _
  rw [UInt32.toNat_ofNat_of_lt' (by simpa [UInt32.size] using (by omega : x.toNat / 2 ^ n < 4294967296)), hk]
  simp
theorem w32_shr3 (x : UInt32) : w32 x / 8 = w32 (shr32 x 3) := w32_shr x 3 8 rfl
theorem w32_shr10 (x : UInt32) : w32 x / 1024 = w32 (shr32 x 10) := w32_shr x 10 1024 rfl
theorem w32_quo3 (x : UInt32) : IntKind.u32.wrap ((w32 x).tdiv 8) = w32 (shr32 x 3) := by rw [IntWalk.u32_quo _ _ ⟨(w32_lt x).1, (w32_lt x).2, by omega⟩, w32_shr3]
theorem w32_quo10 (x : UInt32) : IntKind.u32.wrap ((w32 x).tdiv 1024) = w32 (shr32 x 10) := by rw [IntWalk.u32_quo _ _ ⟨(w32_lt x).1, (w32_lt x).2, by omega⟩, w32_shr10]
theorem rotr_or (x : UInt32) (n : Nat) (h1 : 1 ≤ n) (h2 : n ≤ 31) (j k : Int) (hj : j = 2 ^ (32 - n)) (hk : k = 2 ^ n) :
    bits BinOp.or IntKind.u32 (IntKind.u32.wrap (w32 x * j)) (w32 x / k) = w32 (rotr x n) := by
  have hx := x.toNat_lt
  have hp : 2 ^ n * 2 ^ (32 - n) = 4294967296 := by rw [← Nat.pow_add, show n + (32 - n) = 32 by omega]
  have hlow : x.toNat / 2 ^ n < 2 ^ (32 - n) := by
    rw [Nat.div_lt_iff_lt_mul (Nat.two_pow_pos n), Nat.mul_comm, hp]; omega
  have e1 : IntKind.u32.wrap (w32 x * j) = ((x.toNat * 2 ^ (32 - n) % 4294967296 : Nat) : Int) := by
    rw [IntKind.wrap_u32, hj]; unfold w32; simp
  have e2 : w32 x / k = ((x.toNat / 2 ^ n : Nat) : Int) := by rw [hk]; unfold w32; simp
  have e3 : x.toNat * 2 ^ (32 - n) % 4294967296 = (x.toNat % 2 ^ n) * 2 ^ (32 - n) := by
    rw [← hp, Nat.mul_mod_mul_right]
  have hb : x.toNat % 2 ^ n * 2 ^ (32 - n) + x.toNat / 2 ^ n < 4294967296 := by
    have h3 : x.toNat % 2 ^ n + 1 ≤ 2 ^ n := Nat.mod_lt _ (Nat.two_pow_pos n)
    have h4 := Nat.mul_le_mul_right (2 ^ (32 - n)) h3
    rw [hp, Nat.add_mul] at h4
    omega
  rw [e1, e2, u32_or_nat _ _ (Nat.mod_lt _ (by omega)) (by omega)]
  unfold w32 rotr
  rw [e3, ← Nat.shiftLeft_eq, ← Nat.shiftLeft_add_eq_or_of_lt hlow, Nat.shiftLeft_eq]
  rw [UInt32.toNat_ofNat_of_lt' (by simpa [UInt32.size] using (by omega : x.toNat / 2 ^ n + x.toNat % 2 ^ n * 2 ^ (32 - n) < 4294967296))]
  congr 1
  omega
def wv (x : UInt32) : Value := .int .u32 (w32 x)
def wvs (l : List UInt32) : List Value := l.map wv
theorem wvs_len (l : List UInt32) : (wvs l).length = l.length := by simp [wvs]
theorem wvs_get (l : List UInt32) (j : Nat) (x : UInt32) (h : l[j]? = some x) : (wvs l)[j]? = some (.int .u32 (w32 x)) := by simp [wvs, h, wv]
theorem wvs_one (l : List UInt32) : ∀ v ∈ (wvs l), v.oneCell' = true := by
  intro u hu
  obtain ⟨c, _, rfl⟩ := List.mem_map.1 hu
  rfl
theorem rotr_or' (x : UInt32) (n : Nat) (h1 : 1 ≤ n) (h2 : n ≤ 31) (j k : Int) (hj : j = 2 ^ (32 - n)) (hk : k = 2 ^ n) :
    bits BinOp.or IntKind.u32 (w32 x * j % 4294967296) (w32 x / k) = w32 (rotr x n) := by
  rw [← rotr_or x n h1 h2 j k hj hk, IntKind.wrap_u32]
theorem rotr_sum (x : UInt32) (n : Nat) (h1 : 1 ≤ n) (h2 : n ≤ 31) (j k : Int) (hj : j = 2 ^ (32 - n)) (hk : k = 2 ^ n) :
    w32 x / k + w32 x * j % 4294967296 = w32 (rotr x n) := by
  have hx := x.toNat_lt
  have hp : 2 ^ n * 2 ^ (32 - n) = 4294967296 := by rw [← Nat.pow_add, show n + (32 - n) = 32 by omega]
  have hlow : x.toNat / 2 ^ n < 2 ^ (32 - n) := by
    rw [Nat.div_lt_iff_lt_mul (Nat.two_pow_pos n), Nat.mul_comm, hp]; omega
  have e3 : x.toNat * 2 ^ (32 - n) % 4294967296 = (x.toNat % 2 ^ n) * 2 ^ (32 - n) := by
    rw [← hp, Nat.mul_mod_mul_right]
  have hb : x.toNat % 2 ^ n * 2 ^ (32 - n) + x.toNat / 2 ^ n < 4294967296 := by
    have h3 : x.toNat % 2 ^ n + 1 ≤ 2 ^ n := Nat.mod_lt _ (Nat.two_pow_pos n)
    have h4 := Nat.mul_le_mul_right (2 ^ (32 - n)) h3
    rw [hp, Nat.add_mul] at h4
    omega
  rw [hj, hk]
  unfold w32 rotr
  rw [UInt32.toNat_ofNat_of_lt' (by rw [e3]; simpa [UInt32.size] using (by omega : x.toNat / 2 ^ n + x.toNat % 2 ^ n * 2 ^ (32 - n) < 4294967296))]
  simp
theorem u32_add' (a b : UInt32) : (w32 a + w32 b) % 4294967296 = w32 (a + b) := by rw [← u32_add, IntKind.wrap_u32]
theorem u8m32 (c : UInt8) : (c.toNat : Int) % 4294967296 = c.toNat := by have := c.toNat_lt; omega
end Go.Proofs.Ytlhedbjjlomniaa
set_option linter.unusedSimpArgs false
set_option linter.unusedVariables false
namespace Go.Proofs.Ytlhedbjjlomniaa
open Go.RowKit
attribute [local go_sem] extract_mid extract_drop bget bsize wrap64_u8 i64_u8 u64_u8 bappend
attribute [local go_sem] u32_add u32_xor_w u32_and_w u32_or_w w32_shr3 w32_shr10
theorem rot7 (x : UInt32) (w : World) : Calls Try.prog 122 #[.int .u32 (w32 x), .int .i64 (-7)] w fun r w' => r = .returned (.int .u32 (w32 (rotr x 7))) ∧ w = w' := by
  have hx := w32_lt x
  have hs : bits BinOp.and IntKind.u64 (IntKind.u64.wrap (-7)) 31 = 25 := by decide
  have hr := rotr_or' x 7 (by omega) (by omega) 33554432 128 (by decide) (by decide)
  go_enter Try.func122, Try.ntmps122
  go_wp2
  go_ret
  exact ⟨rfl, rfl⟩
theorem turn7 (x : UInt32) (w : World) : Calls Try.prog 116 #[.int .u32 (w32 x), .int .i64 7] w fun r w' => r = .returned (.int .u32 (w32 (rotr x 7))) ∧ w = w' := by
  go_enter Try.func116, Try.ntmps116
  go_wp2_with (go_at_call 122; refine (rot7 x _).mono ?_; rintro r w' ⟨rfl, rfl⟩)
  go_ret
  exact ⟨rfl, rfl⟩
theorem ror7 (x : UInt32) (w : World) : Calls Try.prog 120 #[.int .u32 (w32 x), .int .i64 7] w fun r w' => r = .returned (.int .u32 (w32 (rotr x 7))) ∧ ∃ n, w' = w.drewN n := by
  have hx := w32_lt x
  have hr := rotr_sum x 7 (by omega) (by omega) 33554432 128 (by decide) (by decide)
  go_enter Try.func120, Try.ntmps120
  go_wp2
  go_region
  all_goals (go_wp2; go_ret; exact ⟨rfl, 1, rfl⟩)
theorem rot18 (x : UInt32) (w : World) : Calls Try.prog 122 #[.int .u32 (w32 x), .int .i64 (-18)] w fun r w' => r = .returned (.int .u32 (w32 (rotr x 18))) ∧ w = w' := by
  have hx := w32_lt x
  have hs : bits BinOp.and IntKind.u64 (IntKind.u64.wrap (-18)) 31 = 14 := by decide
  have hr := rotr_or' x 18 (by omega) (by omega) 16384 262144 (by decide) (by decide)
  go_enter Try.func122, Try.ntmps122
  go_wp2
  go_ret
  exact ⟨rfl, rfl⟩
theorem turn18 (x : UInt32) (w : World) : Calls Try.prog 116 #[.int .u32 (w32 x), .int .i64 18] w fun r w' => r = .returned (.int .u32 (w32 (rotr x 18))) ∧ w = w' := by
  go_enter Try.func116, Try.ntmps116
  go_wp2_with (go_at_call 122; refine (rot18 x _).mono ?_; rintro r w' ⟨rfl, rfl⟩)
  go_ret
  exact ⟨rfl, rfl⟩
theorem ror18 (x : UInt32) (w : World) : Calls Try.prog 120 #[.int .u32 (w32 x), .int .i64 18] w fun r w' => r = .returned (.int .u32 (w32 (rotr x 18))) ∧ ∃ n, w' = w.drewN n := by
  have hx := w32_lt x
  have hr := rotr_sum x 18 (by omega) (by omega) 16384 262144 (by decide) (by decide)
  go_enter Try.func120, Try.ntmps120
  go_wp2
  go_region
  all_goals (go_wp2; go_ret; exact ⟨rfl, 1, rfl⟩)
theorem rot17 (x : UInt32) (w : World) : Calls Try.prog 122 #[.int .u32 (w32 x), .int .i64 (-17)] w fun r w' => r = .returned (.int .u32 (w32 (rotr x 17))) ∧ w = w' := by
  have hx := w32_lt x
  have hs : bits BinOp.and IntKind.u64 (IntKind.u64.wrap (-17)) 31 = 15 := by decide
  have hr := rotr_or' x 17 (by omega) (by omega) 32768 131072 (by decide) (by decide)
  go_enter Try.func122, Try.ntmps122
  go_wp2
  go_ret
  exact ⟨rfl, rfl⟩
theorem turn17 (x : UInt32) (w : World) : Calls Try.prog 116 #[.int .u32 (w32 x), .int .i64 17] w fun r w' => r = .returned (.int .u32 (w32 (rotr x 17))) ∧ w = w' := by
  go_enter Try.func116, Try.ntmps116
  go_wp2_with (go_at_call 122; refine (rot17 x _).mono ?_; rintro r w' ⟨rfl, rfl⟩)
  go_ret
  exact ⟨rfl, rfl⟩
theorem ror17 (x : UInt32) (w : World) : Calls Try.prog 120 #[.int .u32 (w32 x), .int .i64 17] w fun r w' => r = .returned (.int .u32 (w32 (rotr x 17))) ∧ ∃ n, w' = w.drewN n := by
  have hx := w32_lt x
  have hr := rotr_sum x 17 (by omega) (by omega) 32768 131072 (by decide) (by decide)
  go_enter Try.func120, Try.ntmps120
  go_wp2
  go_region
  all_goals (go_wp2; go_ret; exact ⟨rfl, 1, rfl⟩)
theorem rot19 (x : UInt32) (w : World) : Calls Try.prog 122 #[.int .u32 (w32 x), .int .i64 (-19)] w fun r w' => r = .returned (.int .u32 (w32 (rotr x 19))) ∧ w = w' := by
  have hx := w32_lt x
  have hs : bits BinOp.and IntKind.u64 (IntKind.u64.wrap (-19)) 31 = 13 := by decide
  have hr := rotr_or' x 19 (by omega) (by omega) 8192 524288 (by decide) (by decide)
  go_enter Try.func122, Try.ntmps122
  go_wp2
  go_ret
  exact ⟨rfl, rfl⟩
theorem turn19 (x : UInt32) (w : World) : Calls Try.prog 116 #[.int .u32 (w32 x), .int .i64 19] w fun r w' => r = .returned (.int .u32 (w32 (rotr x 19))) ∧ w = w' := by
  go_enter Try.func116, Try.ntmps116
  go_wp2_with (go_at_call 122; refine (rot19 x _).mono ?_; rintro r w' ⟨rfl, rfl⟩)
  go_ret
  exact ⟨rfl, rfl⟩
theorem ror19 (x : UInt32) (w : World) : Calls Try.prog 120 #[.int .u32 (w32 x), .int .i64 19] w fun r w' => r = .returned (.int .u32 (w32 (rotr x 19))) ∧ ∃ n, w' = w.drewN n := by
  have hx := w32_lt x
  have hr := rotr_sum x 19 (by omega) (by omega) 8192 524288 (by decide) (by decide)
  go_enter Try.func120, Try.ntmps120
  go_wp2
  go_region
  all_goals (go_wp2; go_ret; exact ⟨rfl, 1, rfl⟩)
theorem rot6 (x : UInt32) (w : World) : Calls Try.prog 122 #[.int .u32 (w32 x), .int .i64 (-6)] w fun r w' => r = .returned (.int .u32 (w32 (rotr x 6))) ∧ w = w' := by
  have hx := w32_lt x
  have hs : bits BinOp.and IntKind.u64 (IntKind.u64.wrap (-6)) 31 = 26 := by decide
  have hr := rotr_or' x 6 (by omega) (by omega) 67108864 64 (by decide) (by decide)
  go_enter Try.func122, Try.ntmps122
  go_wp2
  go_ret
  exact ⟨rfl, rfl⟩
theorem turn6 (x : UInt32) (w : World) : Calls Try.prog 116 #[.int .u32 (w32 x), .int .i64 6] w fun r w' => r = .returned (.int .u32 (w32 (rotr x 6))) ∧ w = w' := by
  go_enter Try.func116, Try.ntmps116
  go_wp2_with (go_at_call 122; refine (rot6 x _).mono ?_; rintro r w' ⟨rfl, rfl⟩)
  go_ret
  exact ⟨rfl, rfl⟩
theorem ror6 (x : UInt32) (w : World) : Calls Try.prog 120 #[.int .u32 (w32 x), .int .i64 6] w fun r w' => r = .returned (.int .u32 (w32 (rotr x 6))) ∧ ∃ n, w' = w.drewN n := by
  have hx := w32_lt x
  have hr := rotr_sum x 6 (by omega) (by omega) 67108864 64 (by decide) (by decide)
  go_enter Try.func120, Try.ntmps120
  go_wp2
  go_region
  all_goals (go_wp2; go_ret; exact ⟨rfl, 1, rfl⟩)
theorem rot11 (x : UInt32) (w : World) : Calls Try.prog 122 #[.int .u32 (w32 x), .int .i64 (-11)] w fun r w' => r = .returned (.int .u32 (w32 (rotr x 11))) ∧ w = w' := by
  have hx := w32_lt x
  have hs : bits BinOp.and IntKind.u64 (IntKind.u64.wrap (-11)) 31 = 21 := by decide
  have hr := rotr_or' x 11 (by omega) (by omega) 2097152 2048 (by decide) (by decide)
  go_enter Try.func122, Try.ntmps122
  go_wp2
  go_ret
  exact ⟨rfl, rfl⟩
theorem turn11 (x : UInt32) (w : World) : Calls Try.prog 116 #[.int .u32 (w32 x), .int .i64 11] w fun r w' => r = .returned (.int .u32 (w32 (rotr x 11))) ∧ w = w' := by
  go_enter Try.func116, Try.ntmps116
  go_wp2_with (go_at_call 122; refine (rot11 x _).mono ?_; rintro r w' ⟨rfl, rfl⟩)
  go_ret
  exact ⟨rfl, rfl⟩
theorem ror11 (x : UInt32) (w : World) : Calls Try.prog 120 #[.int .u32 (w32 x), .int .i64 11] w fun r w' => r = .returned (.int .u32 (w32 (rotr x 11))) ∧ ∃ n, w' = w.drewN n := by
  have hx := w32_lt x
  have hr := rotr_sum x 11 (by omega) (by omega) 2097152 2048 (by decide) (by decide)
  go_enter Try.func120, Try.ntmps120
  go_wp2
  go_region
  all_goals (go_wp2; go_ret; exact ⟨rfl, 1, rfl⟩)
theorem rot25 (x : UInt32) (w : World) : Calls Try.prog 122 #[.int .u32 (w32 x), .int .i64 (-25)] w fun r w' => r = .returned (.int .u32 (w32 (rotr x 25))) ∧ w = w' := by
  have hx := w32_lt x
  have hs : bits BinOp.and IntKind.u64 (IntKind.u64.wrap (-25)) 31 = 7 := by decide
  have hr := rotr_or' x 25 (by omega) (by omega) 128 33554432 (by decide) (by decide)
  go_enter Try.func122, Try.ntmps122
  go_wp2
  go_ret
  exact ⟨rfl, rfl⟩
theorem turn25 (x : UInt32) (w : World) : Calls Try.prog 116 #[.int .u32 (w32 x), .int .i64 25] w fun r w' => r = .returned (.int .u32 (w32 (rotr x 25))) ∧ w = w' := by
  go_enter Try.func116, Try.ntmps116
  go_wp2_with (go_at_call 122; refine (rot25 x _).mono ?_; rintro r w' ⟨rfl, rfl⟩)
  go_ret
  exact ⟨rfl, rfl⟩
theorem ror25 (x : UInt32) (w : World) : Calls Try.prog 120 #[.int .u32 (w32 x), .int .i64 25] w fun r w' => r = .returned (.int .u32 (w32 (rotr x 25))) ∧ ∃ n, w' = w.drewN n := by
  have hx := w32_lt x
  have hr := rotr_sum x 25 (by omega) (by omega) 128 33554432 (by decide) (by decide)
  go_enter Try.func120, Try.ntmps120
  go_wp2
  go_region
  all_goals (go_wp2; go_ret; exact ⟨rfl, 1, rfl⟩)
theorem rot2 (x : UInt32) (w : World) : Calls Try.prog 122 #[.int .u32 (w32 x), .int .i64 (-2)] w fun r w' => r = .returned (.int .u32 (w32 (rotr x 2))) ∧ w = w' := by
  have hx := w32_lt x
  have hs : bits BinOp.and IntKind.u64 (IntKind.u64.wrap (-2)) 31 = 30 := by decide
  have hr := rotr_or' x 2 (by omega) (by omega) 1073741824 4 (by decide) (by decide)
  go_enter Try.func122, Try.ntmps122
  go_wp2
  go_ret
  exact ⟨rfl, rfl⟩
theorem turn2 (x : UInt32) (w : World) : Calls Try.prog 116 #[.int .u32 (w32 x), .int .i64 2] w fun r w' => r = .returned (.int .u32 (w32 (rotr x 2))) ∧ w = w' := by
  go_enter Try.func116, Try.ntmps116
  go_wp2_with (go_at_call 122; refine (rot2 x _).mono ?_; rintro r w' ⟨rfl, rfl⟩)
  go_ret
  exact ⟨rfl, rfl⟩
theorem ror2 (x : UInt32) (w : World) : Calls Try.prog 120 #[.int .u32 (w32 x), .int .i64 2] w fun r w' => r = .returned (.int .u32 (w32 (rotr x 2))) ∧ ∃ n, w' = w.drewN n := by
  have hx := w32_lt x
  have hr := rotr_sum x 2 (by omega) (by omega) 1073741824 4 (by decide) (by decide)
  go_enter Try.func120, Try.ntmps120
  go_wp2
  go_region
  all_goals (go_wp2; go_ret; exact ⟨rfl, 1, rfl⟩)
theorem rot13 (x : UInt32) (w : World) : Calls Try.prog 122 #[.int .u32 (w32 x), .int .i64 (-13)] w fun r w' => r = .returned (.int .u32 (w32 (rotr x 13))) ∧ w = w' := by
  have hx := w32_lt x
  have hs : bits BinOp.and IntKind.u64 (IntKind.u64.wrap (-13)) 31 = 19 := by decide
  have hr := rotr_or' x 13 (by omega) (by omega) 524288 8192 (by decide) (by decide)
  go_enter Try.func122, Try.ntmps122
  go_wp2
  go_ret
  exact ⟨rfl, rfl⟩
theorem turn13 (x : UInt32) (w : World) : Calls Try.prog 116 #[.int .u32 (w32 x), .int .i64 13] w fun r w' => r = .returned (.int .u32 (w32 (rotr x 13))) ∧ w = w' := by
  go_enter Try.func116, Try.ntmps116
  go_wp2_with (go_at_call 122; refine (rot13 x _).mono ?_; rintro r w' ⟨rfl, rfl⟩)
  go_ret
  exact ⟨rfl, rfl⟩
theorem ror13 (x : UInt32) (w : World) : Calls Try.prog 120 #[.int .u32 (w32 x), .int .i64 13] w fun r w' => r = .returned (.int .u32 (w32 (rotr x 13))) ∧ ∃ n, w' = w.drewN n := by
  have hx := w32_lt x
  have hr := rotr_sum x 13 (by omega) (by omega) 524288 8192 (by decide) (by decide)
  go_enter Try.func120, Try.ntmps120
  go_wp2
  go_region
  all_goals (go_wp2; go_ret; exact ⟨rfl, 1, rfl⟩)
theorem rot22 (x : UInt32) (w : World) : Calls Try.prog 122 #[.int .u32 (w32 x), .int .i64 (-22)] w fun r w' => r = .returned (.int .u32 (w32 (rotr x 22))) ∧ w = w' := by
  have hx := w32_lt x
  have hs : bits BinOp.and IntKind.u64 (IntKind.u64.wrap (-22)) 31 = 10 := by decide
  have hr := rotr_or' x 22 (by omega) (by omega) 1024 4194304 (by decide) (by decide)
  go_enter Try.func122, Try.ntmps122
  go_wp2
  go_ret
  exact ⟨rfl, rfl⟩
theorem turn22 (x : UInt32) (w : World) : Calls Try.prog 116 #[.int .u32 (w32 x), .int .i64 22] w fun r w' => r = .returned (.int .u32 (w32 (rotr x 22))) ∧ w = w' := by
  go_enter Try.func116, Try.ntmps116
  go_wp2_with (go_at_call 122; refine (rot22 x _).mono ?_; rintro r w' ⟨rfl, rfl⟩)
  go_ret
  exact ⟨rfl, rfl⟩
theorem ror22 (x : UInt32) (w : World) : Calls Try.prog 120 #[.int .u32 (w32 x), .int .i64 22] w fun r w' => r = .returned (.int .u32 (w32 (rotr x 22))) ∧ ∃ n, w' = w.drewN n := by
  have hx := w32_lt x
  have hr := rotr_sum x 22 (by omega) (by omega) 1024 4194304 (by decide) (by decide)
  go_enter Try.func120, Try.ntmps120
  go_wp2
  go_region
  all_goals (go_wp2; go_ret; exact ⟨rfl, 1, rfl⟩)
end Go.Proofs.Ytlhedbjjlomniaa
set_option linter.unusedSimpArgs false
set_option linter.unusedVariables false
namespace Go.Proofs.Ytlhedbjjlomniaa
open Go.RowKit
attribute [local go_sem] extract_mid extract_drop bget bsize wrap64_u8 i64_u8 u64_u8 bappend
attribute [local go_sem] u8m32 u32_add u32_add' u32_xor_w u32_and_w u32_or_w w32_shr3 w32_shr10
@[irreducible] def z64 : List UInt32 := List.replicate 64 0
theorem z64_len : z64.length = 64 := by unfold z64; simp
theorem info_w64 : (Try.prog.info? 180).map (fun i => i.zero) = some (some (.agg (wvs z64).toArray)) := by kernel_rfl
theorem info_w64n : (Try.prog.info? 180).map (·.size) = some 64 := by kernel_rfl
theorem w64sz (l : List UInt32) (h : l.length = 64) : (Try.prog.info? 180).map (·.size) = some (wvs l).toArray.size := by rw [info_w64n]; simp [wvs_len, h]
theorem wset (A R : List UInt32) (x y : UInt32) (k : Nat) (h : A.length = k) : (wvs (A ++ x :: R)).toArray.setIfInBounds k (.int .u32 (w32 y)) = (wvs (A ++ y :: R)).toArray := by
  subst h
  simp only [List.setIfInBounds_toArray]
  congr 1
  simp [wvs, wv]
theorem wget {w : World} {g : Nat} {t : TypeId} {l : List UInt32} (h : Blk w g t (wvs l).toArray) (j : Nat) (x : UInt32) (hx : l[j]? = some x) : w.cell? ⟨g, j, none⟩ = some (.int .u32 (w32 x)) := by
  rw [h.cell]; simpa using wvs_get l j x hx
def part (l : List UInt8) : UInt32 := UInt32.ofNat (numOf l)
theorem part_step (l : List UInt8) (c : UInt8) (h : l.length ≤ 3) : bits BinOp.or IntKind.u32 (w32 (part l) * 256 % 4294967296) (c.toNat : Int) = w32 (part (l ++ [c])) := by
  have h1 := numOf_lt l
  have h2 : 256 ^ l.length ≤ 256 ^ 3 := Nat.pow_le_pow_right (by omega) h
  have hc := c.toNat_lt
  have e1 : (part l).toNat = numOf l := by unfold part; rw [UInt32.toNat_ofNat_of_lt' (by simp [UInt32.size]; omega)]
  have e2 : (part (l ++ [c])).toNat = numOf l * 256 + c.toNat := by unfold part; rw [numOf_snoc, UInt32.toNat_ofNat_of_lt' (by simp [UInt32.size]; omega)]
  unfold w32
  rw [e1, e2, show ((numOf l : Int) * 256 % 4294967296) = ((numOf l * 256 : Nat) : Int) by omega, u32_or_nat _ _ (by omega) (by omega)]
  have e3 : numOf l * 256 = numOf l <<< 8 := by rw [Nat.shiftLeft_eq]
  rw [e3, ← Nat.shiftLeft_add_eq_or_of_lt (by omega)]
theorem part_word (b : List UInt8) (i : Nat) (h : 4 * i + 4 ≤ b.length) : part ((b.drop (4 * i)).take 4) = wordAt b i := by
  have e : (b.drop (4 * i)).take 4 = [b.getD (4 * i) 0, b.getD (4 * i + 1) 0, b.getD (4 * i + 2) 0, b.getD (4 * i + 3) 0] := by
    apply List.ext_getElem?
    intro j
    rcases (by omega : j = 0 ∨ j = 1 ∨ j = 2 ∨ j = 3 ∨ 4 ≤ j) with rfl | rfl | rfl | rfl | hj
    · simp [List.getElem?_take, List.getElem?_drop, List.getElem?_eq_getElem (show 4 * i < b.length by omega)]
    · simp [List.getElem?_take, List.getElem?_drop, List.getElem?_eq_getElem (show 4 * i + 1 < b.length by omega)]
    · simp [List.getElem?_take, List.getElem?_drop, List.getElem?_eq_getElem (show 4 * i + 2 < b.length by omega)]
    · simp [List.getElem?_take, List.getElem?_drop, List.getElem?_eq_getElem (show 4 * i + 3 < b.length by omega)]
    · rw [List.getElem?_eq_none (by simp; omega), List.getElem?_eq_none (by simp; omega)]
  rw [e]
  unfold part wordAt word4
  refine congrArg UInt32.ofNat ?_
  simp only [numOf, List.foldl_cons, List.foldl_nil]
  omega
set_option maxRecDepth 100000 in
set_option maxHeartbeats 1000000 in
theorem spread_any (b : List UInt8) (ad : Addr) (c : Nat) (hb : b.length = 64) (hc : 64 ≤ c) (hc2 : c ≤ 9223372036854775807) (w : World) (hR : Rd w 1 (some ad) 64 (bvs b)) :
    Calls Try.prog 115 #[.slice (some ad) 64 c] w fun r w' => r = .returned (.agg (wvs (sched b 64)).toArray) ∧ Ch [] w w' := by
  have tok1 : True := trivial
  go_enter Try.func115, Try.ntmps115
  go_wp2_with (first | (have _t := tok1; refine op_alloc rfl 180 rfl (wvs z64).toArray info_w64 ?_; intro g w1 hb1 hg hlt hC1; clear tok1) | (refine op_alloc rfl 180 rfl (wvs z64).toArray info_w64 ?_; intro g2 w2 hb2 hg2 hlt2 hC2))
  have hgg := hb1.lt
  have hgg' := hg
  replace hb1 := hb1.ch0 hC2
  have hgw : g < g2 := by omega
  have hg2' : w.heap.size ≤ g2 := by omega
  have hadlt : ad.block < w.heap.size := by obtain ⟨ad', e, h1, _⟩ := hR.2 (by omega); cases e; exact h1
  have hC := hC1.trans hC2
  clear hC1 hC2
  go_loopw [9] (fun i wr => ∃ (k : Nat), k ≤ 64 ∧ i = .int .i64 k ∧ Blk wr g2 180 (wvs (sched b k ++ List.replicate (64 - k) 0)).toArray ∧ Ch [g2] w2 wr) (fun i _ => 64 - (intOf i).toNat)
  case atStart => exact ⟨0, by omega, rfl, by simpa [sched, z64] using hb2, Ch.refl _ _⟩
  case round =>
    obtain ⟨k, hk, rfl, hbk, hCk⟩ := hrel
    by_cases hlt : k < 64
    · by_cases h16 : k < 16
      · have hRr : Rd wr 1 (some ad) 64 (bvs b) := (hR.ch0 hC).ch hCk (by rintro a ha; cases ha; simp; omega)
        have hrep : List.replicate (64 - k) (0 : UInt32) = 0 :: List.replicate (63 - k) 0 := by rw [show 64 - k = (63 - k) + 1 by omega]; rfl
        have hbk2 : Blk wr g2 180 (wvs (sched b k ++ part ((b.drop (4 * k)).take 0) :: List.replicate (63 - k) 0)).toArray := by rw [hrep] at hbk; exact hbk
        clear hbk hrep
        go_wp2
        obtain ⟨wo, rfl⟩ : ∃ wo : World, wo = wr := ⟨_, rfl⟩
        go_loopw [22] (fun j wr => ∃ (m : Nat), m ≤ 4 ∧ j = .int .i64 m ∧ Blk wr g2 180 (wvs (sched b k ++ part ((b.drop (4 * k)).take m) :: List.replicate (63 - k) 0)).toArray ∧ Ch [g2] w2 wr) (fun j _ => 4 - (intOf j).toNat)
        case atStart => exact ⟨0, by omega, rfl, hbk2, hCk⟩
        case round =>
          obtain ⟨m, hm, rfl, hbm, hCm⟩ := hrel
          by_cases hm4 : m < 4
          · have hRm : Rd wr 1 (some ad) 64 (bvs b) := (hR.ch0 hC).ch hCm (by rintro a ha; cases ha; simp; omega)
            obtain ⟨ad', d, hA, hcell, hget, _⟩ := Rd.elem (f := bv) (k := 4 * k + m) hRm (by omega)
            obtain rfl : ad = ad' := by injection hA
            have hcell2 : wr.cell? ((ad.add (4 * k)).add m) = some (.int .u8 (d.toNat : Int)) := by rw [add_of_add]; exact hcell
            have htk : (b.drop (4 * k)).take (m + 1) = (b.drop (4 * k)).take m ++ [d] := take_snoc_at _ _ _ (by rw [List.getElem?_drop]; exact hget)
            have hgk := wget hbm k (part ((b.drop (4 * k)).take m)) (by rw [List.getElem?_append_right (by rw [sched_len]; omega), sched_len]; simp)
            have hfk := hbm.frozen k
            have hor := part_step ((b.drop (4 * k)).take m) d (by simp; omega)
            have HT := Lib.hid htk
            have HO := Lib.hid hor
            have hset := hbm.set_ k (.int .u32 (w32 (part ((b.drop (4 * k)).take m ++ [d]))))
            rw [wset _ _ _ _ k (sched_len b k)] at hset
            have HS := Lib.hid hset
            clear htk hor hset hget hcell hbm
            go_wp2
            go_roundw
            case rel => exact ⟨m + 1, by omega, by go_num, by rw [HT.out, HO.out]; exact HS.out, hCm.setCell (.inl (by simp)) _⟩
            case measure => simp [intOf]; omega
          · obtain rfl : m = 4 := by omega
            have hnx : sched b k ++ part ((b.drop (4 * k)).take 4) :: List.replicate (63 - k) 0 = sched b (k + 1) ++ List.replicate (64 - (k + 1)) 0 := by
              rw [part_word b k (by omega)]
              simp only [sched, if_pos h16, List.append_assoc, List.singleton_append]
              rw [show 64 - (k + 1) = 63 - k by omega]
            have HX := Lib.hid hnx
            clear hnx
            go_wp2
            go_roundw
            case rel => exact ⟨k + 1, by omega, by go_num, by rw [← HX.out]; exact hbm, hCm⟩
            case measure => simp [intOf]; omega
      · as_aux_lemma =>
        have hw : ∀ j, j < k → ∃ x, (sched b k)[j]? = some x ∧ wr.cell? ⟨g2, j, none⟩ = some (.int .u32 (w32 x)) := fun j hj => by
          have hl : j < (sched b k).length := by rw [sched_len]; exact hj
          exact ⟨(sched b k)[j], List.getElem?_eq_getElem hl, wget hbk j _ (by rw [List.getElem?_append_left hl]; exact List.getElem?_eq_getElem hl)⟩
        obtain ⟨x16, e16, c16⟩ := hw (k - 16) (by omega)
        obtain ⟨x15, e15, c15⟩ := hw (k - 15) (by omega)
        obtain ⟨x7, e7, c7⟩ := hw (k - 7) (by omega)
        obtain ⟨x2, e2, c2⟩ := hw (k - 2) (by omega)
        have hgk := wget hbk k 0 (by rw [List.getElem?_append_right (by rw [sched_len]; omega), sched_len, Nat.sub_self, show 64 - k = (63 - k) + 1 by omega]; rfl)
        have hfk := hbk.frozen k
        have hnext : sched b (k + 1) = sched b k ++ [x16 + x7 + s0 x15 + s1 x2] := by
          simp only [sched, if_neg h16, nextW, sched_len]
          simp [List.getD_eq_getElem?_getD, e16, e15, e7, e2]
        have hset1 := hbk.set_ k (.int .u32 (w32 (x16 + x7)))
        rw [show 64 - k = (63 - k) + 1 by omega, List.replicate_succ, wset _ _ _ _ k (sched_len b k)] at hset1
        have HS1 := Lib.hid hset1
        have HN := Lib.hid hnext
        clear hset1 hnext e16 e15 e7 e2 hw hbk
        go_wp2
        go_region
        all_goals (go_wp2; go_region)
        go_wp2
        obtain ⟨w12, hW⟩ : ∃ x, x = World.drew (World.drew (wr.setCell ⟨g2, k, none⟩ (.int .u32 (w32 (x16 + x7))))) := ⟨_, rfl⟩
        rw [← hW]
        have g12 : w12.cell? ⟨g2, k, none⟩ = some (.int .u32 (w32 (x16 + x7))) := by rw [hW]; simp [go_sem, hgk]
        have f12 : w12.frozen? ⟨g2, k, none⟩ = false := by rw [hW]; simp [go_sem, hfk]
        have b12 : Blk w12 g2 180 (wvs (sched b k ++ (x16 + x7) :: List.replicate (63 - k) 0)).toArray := by rw [hW]; exact HS1.out
        have C12 : Ch [g2] w2 w12 := by rw [hW]; exact ((hCk.setCell (.inl (by simp)) _).drewN 2)
        clear hW
        (refine wp_region_still_tail 13 (by as_aux_lemma => kernel_rfl) (by as_aux_lemma => kernel_rfl) ?_; simp only [List.take_succ_cons, List.take_zero, List.drop_succ_cons, List.drop_zero]; change wpStill _ _ (World.drew _) _ _ _; repeat still_step); (still_call ((turn7 _ _).mono fun _ _ h => ⟨h.1, h.2.symm⟩); repeat still_step); (still_call ((turn18 _ _).mono fun _ _ h => ⟨h.1, h.2.symm⟩); repeat still_step); (refine wpStill_nil ?_; change wpList _ _ _ _ _ (World.drew _))
        go_wp2
        obtain ⟨w13, hW⟩ : ∃ x, x = World.drew (w12.setCell ⟨g2, k, none⟩ (.int .u32 (w32 (x16 + x7 + (rotr x15 7 ^^^ rotr x15 18 ^^^ shr32 x15 3))))) := ⟨_, rfl⟩
        rw [← hW]
        have g13 : w13.cell? ⟨g2, k, none⟩ = some (.int .u32 (w32 (x16 + x7 + (rotr x15 7 ^^^ rotr x15 18 ^^^ shr32 x15 3)))) := by rw [hW]; simp [go_sem, g12]
        have f13 : w13.frozen? ⟨g2, k, none⟩ = false := by rw [hW]; simp [go_sem, f12]
        have b13 : Blk w13 g2 180 (wvs (sched b k ++ (x16 + x7 + (rotr x15 7 ^^^ rotr x15 18 ^^^ shr32 x15 3)) :: List.replicate (63 - k) 0)).toArray := by
          rw [hW]
          have := b12.set_ k (.int .u32 (w32 (x16 + x7 + (rotr x15 7 ^^^ rotr x15 18 ^^^ shr32 x15 3))))
          rw [wset _ _ _ _ k (sched_len b k)] at this
          exact this
        have C13 : Ch [g2] w2 w13 := by rw [hW]; exact ((C12.setCell (.inl (by simp)) _).drew)
        clear hW g12 f12 b12 C12
        (refine wp_region_still_tail 13 (by as_aux_lemma => kernel_rfl) (by as_aux_lemma => kernel_rfl) ?_; simp only [List.take_succ_cons, List.take_zero, List.drop_succ_cons, List.drop_zero]; change wpStill _ _ (World.drew _) _ _ _; repeat still_step); (still_call ((turn17 _ _).mono fun _ _ h => ⟨h.1, h.2.symm⟩); repeat still_step); (still_call ((turn19 _ _).mono fun _ _ h => ⟨h.1, h.2.symm⟩); repeat still_step); (refine wpStill_nil ?_; change wpList _ _ _ _ _ (World.drew _))
        go_wp2
        go_roundw
        case rel =>
          refine ⟨k + 1, by omega, by go_num, ?_, ((C13.setCell (.inl (by simp)) _).drew)⟩
          rw [HN.out, List.append_assoc, show 64 - (k + 1) = 63 - k by omega]
          have := b13.set_ k (.int .u32 (w32 (x16 + x7 + s0 x15 + s1 x2)))
          rw [wset _ _ _ _ k (sched_len b k)] at this
          exact this
        case measure => simp [intOf]; omega
    · obtain rfl : k = 64 := by omega
      obtain ⟨sc, hsc⟩ : ∃ l, l = sched b 64 := ⟨_, rfl⟩
      have hsl : sc.length = 64 := by rw [hsc, sched_len]
      have hb3 : Blk wr g2 180 (wvs sc).toArray := by rw [hsc]; simpa using hbk
      have hb1' := hb1.ch hCk (by simp; omega)
      clear hbk
      go_wp2_with (first | (refine op_load rfl 180 (.tmp 3) rfl g2 rfl 180 (wvs sc).toArray _ hb3 Try.underlying180 rfl (w64sz _ hsl) ?_) | (refine op_store rfl 180 (.tmp 2) (.tmp 82) rfl g rfl 180 (wvs sc).toArray (wvs z64).toArray rfl hb1' (by simp [wvs_len, hsl, z64_len]) (w64sz _ hsl) (by simpa using wvs_one sc) ?_; intro w4 hb4 hC4))
      refine bodyPost_ret (results_cell_row rfl _ _ g 180 (wvs sc).toArray (0, 0) _ rfl hb4 Try.underlying180 rfl (w64sz _ hsl)) rfl ⟨by rw [hsc], ?_⟩
      exact (hC.one hCk (.inr hg2')).one hC4 (.inr hgg')
end Go.Proofs.Ytlhedbjjlomniaa
set_option linter.unusedSimpArgs false
set_option linter.unusedVariables false
namespace Go.Proofs.Ytlhedbjjlomniaa
open Go.RowKit
attribute [local go_sem] extract_mid extract_drop bget bsize wrap64_u8 i64_u8 u64_u8 bappend
theorem build_any {P : Program} {w : World} {ops : Array Oper} {rest : List Oper} {o : Oper} {a : Act} {Q : Exit → Act → World → Prop} (hgd : o.guard = none) (t : TypeId) (parts : Array (Nat × Operand)) (ho : o.op = .build t parts) (v : Value)
    (hrun : (Instr.build t (parts.map fun x => (x.1, a.eval x.2))).run P w = .ok v w) (h : wpList P ops Q rest (a.put o.dst v) w) : wpList P ops Q (o :: rest) a w := by
  refine wpList_plain hgd fun K hK => ?_
  unfold Oper.wp
  simp only [execOp, ho, Sem.run_bind, hrun, Result.andThen_ok, Sem.run_pure]
  exact hK _ _ h
set_option maxRecDepth 100000 in
set_option maxHeartbeats 2000000 in
theorem rounds_any (w : World) : Calls Try.prog 114 #[] w fun r w' => r = .returned (.agg (wvs K64).toArray) ∧ Ch [] w w' := by
  go_enter Try.func114, Try.ntmps114
  go_wp2_with (first | (refine op_alloc rfl 180 rfl (wvs z64).toArray info_w64 ?_; intro g w1 hb1 hg hlt hC1) | (refine build_any rfl 180 _ rfl (.agg (wvs K64).toArray) (by as_aux_lemma => kernel_rfl) ?_) | (refine op_store rfl 180 (.tmp 0) (.tmp 1) rfl g rfl 180 (wvs K64).toArray (wvs z64).toArray rfl hb1 (by simp [wvs_len, K64_len, z64_len]) (w64sz _ K64_len) (by simpa using wvs_one K64) ?_; intro w4 hb4 hC4))
  refine bodyPost_ret (results_cell_row rfl _ _ g 180 (wvs K64).toArray (0, 0) _ rfl hb4 Try.underlying180 rfl (w64sz _ K64_len)) rfl ⟨rfl, ?_⟩
  exact hC1.one hC4 (.inr hg)
end Go.Proofs.Ytlhedbjjlomniaa
set_option linter.unusedSimpArgs false
set_option linter.unusedVariables false
namespace Go.Proofs.Ytlhedbjjlomniaa
open Go.RowKit
section
variable {P : Program} {ops : Array Oper} {Q : Exit → Act → World → Prop}
/-- The operation i, in a region. -/
@[irreducible] def stepOf (P : Program) (ops : Array Oper) (Q : Exit → Act → World → Prop) (o : Oper) (K : Act → World → Prop) (a : Act) (w : World) : Prop :=
  if Region.wanted o (yielded ops a.tmps) = true then Oper.wp P o a w K Q else K (a.put o.dst undef) w
theorem ready_mem {md : Region.Mode} {L : Array Bool} {i : Nat} (h : i ∈ Region.ready md ops L) :
    ∃ o, ops[i]? = some o ∧ L.getD i true = false ∧ ∀ e ∈ o.after.toList, Region.binds md e = true → L.getD e.on false = true := by
  unfold Region.ready at h
  simp only [List.mem_filter, List.mem_range, Bool.and_eq_true, Bool.not_eq_true'] at h
  obtain ⟨hlt, h1, h2⟩ := h
  have ho : ops[i]? = some ops[i] := Array.getElem?_eq_getElem hlt
  refine ⟨ops[i], ho, h1, fun e he hb => ?_⟩
  rw [ho] at h2
  simp only [Option.map_some, Option.getD_some, Array.all_eq_true] at h2
  obtain ⟨j, hj, rfl⟩ := List.getElem_of_mem he
  have := h2 j (by simpa using hj)
  simp only [Array.getElem_toList] at hb ⊢
  simpa [hb] using this
theorem ready_nil {md : Region.Mode} {L : Array Bool} (hs : L.size = ops.size) (hd : ∀ (i : Nat) (o : Oper), ops[i]? = some o → ∀ e ∈ o.after.toList, e.on < i) (h : Region.ready md ops L = []) : ∀ i, i < ops.size → L.getD i false = true := by
  intro i
  induction i using Nat.strongRecOn with
  | _ i ih =>
    intro hi
    rcases hb : L.getD i true with _ | _
    · exfalso
      have hmem : i ∈ Region.ready md ops L := by
        unfold Region.ready
        simp only [List.mem_filter, List.mem_range, Bool.and_eq_true, Bool.not_eq_true']
        refine ⟨hi, hb, ?_⟩
        have ho : ops[i]? = some ops[i] := Array.getElem?_eq_getElem hi
        rw [ho]
        simp only [Option.map_some, Option.getD_some, Array.all_eq_true]
        intro j hj
        have hlt := hd i _ ho (ops[i].after[j]) (by simp)
        rw [ih _ hlt (by omega)]
        simp
      rw [h] at hmem
      cases hmem
    · have hi2 : i < L.size := by omega
      simpa [Array.getD, hi2] using hb
theorem wpAny_inv {md : Region.Mode} (I : Array Bool → Act → World → Prop) (hd : ∀ (i : Nat) (o : Oper), ops[i]? = some o → ∀ e ∈ o.after.toList, e.on < i)
    (hstep : ∀ (L : Array Bool) a w, L.size = ops.size → I L a w → ∀ (i : Nat) (o : Oper), ops[i]? = some o → L.getD i true = false → (∀ e ∈ o.after.toList, Region.binds md e = true → L.getD e.on false = true) → stepOf P ops Q o (fun a' w' => I (L.setIfInBounds i true) a' w') a w)
    (hend : ∀ (L : Array Bool) a w, I L a w → (∀ i, i < ops.size → L.getD i false = true) → Q .normal a w) :
    ∀ (fuel : Nat) (L : Array Bool) (a : Act) (w : World), L.size = ops.size → L.toList.count false ≤ fuel → I L a w → wpAny P md ops Q fuel L a w := by
  intro fuel
  induction fuel with
  | zero =>
    intro L a w hs hc hI
    have hnil : Region.ready md ops L = [] := by
      rcases hr : Region.ready md ops L with _ | ⟨i, is⟩
      · rfl
      · obtain ⟨o, ho, hb, _⟩ := ready_mem (i := i) (by rw [hr]; exact List.mem_cons_self)
        exfalso
        have hi : i < L.size := by
          rcases Nat.lt_or_ge i L.size with h | h
          · exact h
          · simp [Array.getD, Nat.not_lt.2 h] at hb
        have hm : false ∈ L.toList := by
          have : L[i] = false := by simpa [Array.getD, hi] using hb
          rw [← this]; simp
        have := List.count_pos_iff.2 hm
        omega
    exact ⟨hnil, hend L a w hI (ready_nil hs hd hnil)⟩
  | succ fuel ih =>
    intro L a w hs hc hI
    refine ⟨fun hnil => hend L a w hI (ready_nil hs hd hnil), fun i hi => ?_⟩
    obtain ⟨o, ho, hb, hdeps⟩ := ready_mem hi
    have hst := hstep L a w hs hI i o ho hb hdeps
    have hi2 : i < L.size := by
      rcases Nat.lt_or_ge i L.size with h | h
      · exact h
      · simp [Array.getD, Nat.not_lt.2 h] at hb
    have hcnt : (L.setIfInBounds i true).toList.count false ≤ fuel := by
      have : L.toList[i]'(by simpa using hi2) = false := by simpa [Array.getD, hi2] using hb
      rw [Array.toList_setIfInBounds, List.count_set (by simpa using hi2)]
      simp only [this]
      simp
      have hm : 0 < L.toList.count false := List.count_pos_iff.2 (by rw [← this]; simp)
      have e9 : L.toList.count false = Array.count false L := by simp
      omega
    have hgo : ∀ a' w', I (L.setIfInBounds i true) a' w' → wpAny P md ops Q fuel (L.setIfInBounds i true) a' w' := fun a' w' h => ih _ a' w' (by simpa using hs) hcnt h
    unfold stepOf at hst
    unfold wpOp
    rw [ho]
    simp only []
    split
    · rename_i hw
      rw [if_pos hw] at hst
      exact .inl (Oper.wp_mono hgo hst)
    · rename_i hw
      rw [if_neg hw] at hst
      exact hgo _ _ hst
/-- The law. -/
theorem region_inv {id : Nat} {a : Act} {w : World} (I : Array Bool → Act → World → Prop) (hm : P.follows .mixedOrders = true)
    (hd : ops.toList.zipIdx.all (fun x => x.1.after.toList.all fun e => decide (e.on < x.2)) = true)
    (h0 : I (Array.replicate ops.size false) a w.drew)
    (hstep : ∀ (L : Array Bool) a w, L.size = ops.size → I L a w → ∀ (i : Nat) (o : Oper), ops[i]? = some o → L.getD i true = false → (∀ e ∈ o.after.toList, Region.binds .any e = true → L.getD e.on false = true) → ∀ K : Act → World → Prop, (∀ a' w', I (L.setIfInBounds i true) a' w' → K a' w') → stepOf P ops Q o K a w)
    (hend : ∀ (L : Array Bool) a w, I L a w → (∀ i, i < ops.size → L.getD i false = true) → Q .normal a w) :
    (Code.region id ops true).wp P Q a w := by
  refine wp_region_any hm ?_
  refine wpAny_inv I (fun i o ho e he => ?_) (fun L a w hs hI i o ho hb hd => hstep L a w hs hI i o ho hb hd _ fun _ _ h => h) hend _ _ _ _ (by simp) (by simp) h0
  have hx := List.all_eq_true.1 hd (o, i) (List.mem_zipIdx_iff_getElem?.2 (by simpa using ho))
  simpa using List.all_eq_true.1 hx e he
/-- A list of what is done, one more. -/
theorem done_set (L : Array Bool) (i j : Nat) : (L.setIfInBounds i true).getD j false = (decide (i = j ∧ i < L.size) || L.getD j false) := by
  by_cases hj : j < L.size
  · by_cases hij : i = j
    · subst hij; simp [Array.getD, hj]
    · simp [Array.getD, hj, hij, Array.getElem_setIfInBounds]
  · by_cases hij : i = j
    · subst hij; simp [Array.getD, hj]
    · simp [Array.getD, hj, hij]
theorem done_ne {L : Array Bool} {i j : Nat} (h : i ≠ j) : (L.setIfInBounds i true).getD j false = L.getD j false := by simp [done_set, h]
theorem done_eq {L : Array Bool} {i : Nat} (h : i < L.size) : (L.setIfInBounds i true).getD i false = true := by simp [done_set, h]
theorem keep_ {L : Array Bool} {i j : Nat} {X : Prop} (h : i ≠ j) (f : L.getD j false = true → X) : (L.setIfInBounds i true).getD j false = true → X := fun hb => f (by rwa [done_ne h] at hb)
variable {o : Oper} {a : Act} {w : World} {K : Act → World → Prop}
theorem stepOf_plain (hgd : o.guard = none) (h : Oper.wp P o a w K Q) : stepOf P ops Q o K a w := by
  unfold stepOf
  have hw : Region.wanted o (yielded ops a.tmps) = true := by simp [Region.wanted, hgd]
  rw [if_pos hw]
  exact h
theorem step_alloc (hgd : o.guard = none) (t : TypeId) (ho : o.op = .alloc t) (zs : Array Value) (hz : (P.info? t).map (fun i => i.zero) = some (some (.agg zs)))
    (h : ∀ g w1, Blk w1 g t zs → w.heap.size ≤ g → w.heap.size < w1.heap.size → Ch [] w w1 → K (a.put o.dst (.pointer (some ⟨g, 0, none⟩))) w1) : stepOf P ops Q o K a w := by
  refine stepOf_plain hgd ?_
  cases hq : P.info? t with
  | none => simp [hq] at hz
  | some i =>
    have hz' : i.zero = some (.agg zs) := by simpa [hq] using hz
    unfold Oper.wp
    simp [execOp, ho, Instr.alloc, zeroValue, typeInfo, hq, hz', newVar, newRow, Value.cells]
    exact h _ _ (Blk.new w t zs) (Nat.le_refl _) (by simp) ((Ch.refl _ _).alloc _)
theorem step_load_at (hgd : o.guard = none) (ty : TypeId) (x : Operand) (ho : o.op = .load ty x) (ad : Addr) (hx : a.eval x = .pointer (some ad)) (cs : List Value) (d : TypeDesc)
    (hc : ∀ j v, cs[j]? = some v → w.cell? (ad.add j) = some v) (hu : P.underlying ty = some d) (hd : (match d with | .struct _ | .array _ _ => true | _ => false) = true) (hi : (P.info? ty).map (·.size) = some cs.length)
    (h : K (a.put o.dst (.agg cs.toArray)) w) : stepOf P ops Q o K a w := by
  refine stepOf_plain hgd ?_
  unfold Oper.wp execOp
  simp only [ho, hx, Instr.loadAt, Instr.sureAddr, Sem.run_bind, Sem.run_pure, Result.andThen_ok, run_loadVar_at w ad ty cs d hc hu hd hi]
  exact h
theorem step_store (hgd : o.guard = none) (ty : TypeId) (x y : Operand) (ho : o.op = .store ty x y) (g : Nat) (hx : a.eval x = .pointer (some ⟨g, 0, none⟩)) (t : TypeId) (cs old : Array Value) (hy : a.eval y = .agg cs) (hg : Blk w g t old)
    (hsz : cs.size = old.size) (hi : (P.info? ty).map (·.size) = some cs.size) (h1 : ∀ v ∈ cs.toList, v.oneCell' = true)
    (h : ∀ w1, Blk w1 g t cs → Ch [g] w w1 → K (a.put o.dst undef) w1) : stepOf P ops Q o K a w := by
  refine stepOf_plain hgd ?_
  have hst := run_storeCells_at P g 0 t cs.toList 0 old w hg (by simp; omega) h1
  have hrun : (storeVar ty ⟨g, 0, none⟩ (.agg cs)).run P w = .ok () (w.setRow g cs) := by
    cases hq : P.info? ty with
    | none => simp [hq] at hi
    | some i =>
      have hs : i.size = cs.size := by simpa [hq] using hi
      simp only [Nat.add_zero, Nat.zero_add, List.take_zero, List.nil_append, Array.length_toList] at hst
      rw [List.drop_of_length_le (by simp; omega), List.append_nil, Array.toArray_toList] at hst
      simp [storeVar, sizeOf, typeInfo, hq, Value.cells, hs, hst]
  unfold Oper.wp execOp
  simp only [ho, hx, hy, Instr.storeAt, Instr.sureAddr, Sem.run_bind, Sem.run_pure, Result.andThen_ok, hrun]
  exact h _ (setRow_blk hg cs) (setRow_ch w g cs)
end
theorem run_copy_row {P : Program} (w : World) (dT sT ty elem : TypeId) (g off n c : Nat) (t : TypeId) (old : Array Value) (ad : Addr) (c2 : Nat) (news : List Value)
    (hu : P.underlying dT = some (.slice elem)) (hs : (P.info? elem).map (·.size) = some 1) (hn : news.length = n) (hc : ∀ j u, news[j]? = some u → w.cell? (ad.add j) = some u)
    (hg : Blk w g t old) (hfit : off + n ≤ old.size) (h1 : ∀ u ∈ news, u.oneCell' = true) :
    (Builtin.copy_ #[dT, sT] ty #[.slice (some ⟨g, off, none⟩) n c, .slice (some ad) n c2]).run P w = .ok (goInt n) (w.setRow g (old.toList.take off ++ news ++ old.toList.drop (off + news.length)).toArray) := by
  subst hn
  have hl := run_loadCells_list (P := P) w ad news hc
  have hst := run_storeCells_at P g off t news 0 old w hg (by simpa using hfit) h1
  cases hq : P.info? elem with
  | none => simp [hq] at hs
  | some i =>
    have hi : i.size = 1 := by simpa [hq] using hs
    have hm : Nat.min news.length news.length = news.length := Nat.min_self _
    simp only [Nat.add_zero] at hst
    simp [Builtin.copy_, run_underlying hu, Builtin.lenOf, Builtin.firstCells, sizeOf, typeInfo, hq, hi, hm, hl, hst]
theorem step_copy_row {P : Program} {ops : Array Oper} {Q : Exit → Act → World → Prop} {o : Oper} {a : Act} {w : World} {K : Act → World → Prop} {E : Prop} (hgd : o.guard = none) (d s : Operand) (dT sT : TypeId) (ho : o.op = .call { callee := .builtin .copy, args := #[d, s], argTypes := #[dT, sT] }) (elem : TypeId)
    (hu : P.underlying dT = some (.slice elem)) (hs : (P.info? elem).map (·.size) = some 1) (g off n c : Nat) (t : TypeId) (old : Array Value) (ad : Addr) (c2 : Nat) (news : List Value)
    (hd : a.eval d = .slice (some ⟨g, off, none⟩) n c) (hx : a.eval s = .slice (some ad) n c2) (hn : news.length = n) (hc : ∀ j u, news[j]? = some u → w.cell? (ad.add j) = some u)
    (hg : Blk w g t old) (hfit : off + n ≤ old.size) (h1 : ∀ u ∈ news, u.oneCell' = true)
    (h : ∀ w1, Blk w1 g t (old.toList.take off ++ news ++ old.toList.drop (off + news.length)).toArray → Ch [g] w w1 → K (a.put o.dst (goInt n)) w1) :
    if Region.wanted o (yielded ops a.tmps) = true then Oper.wp P o a w K Q else E := by
  have hw : Region.wanted o (yielded ops a.tmps) = true := by simp [Region.wanted, hgd]
  rw [if_pos hw]
  have hrun := run_copy_row (P := P) w dT sT o.type elem g off n c t old ad c2 news hu hs hn hc hg hfit h1
  unfold Oper.wp
  simp only [execOp, ho, resolve, invoke, builtin, Sem.run_bind, Sem.run_pure, Result.andThen_ok, List.map_toArray, List.map_cons, List.map_nil, hd, hx, hrun]
  exact h _ (setRow_blk hg _) (setRow_ch w g _)
end Go.Proofs.Ytlhedbjjlomniaa
set_option linter.unusedSimpArgs false
set_option linter.unusedVariables false
namespace Go.Proofs.Ytlhedbjjlomniaa
open Go.RowKit
attribute [local go_sem] extract_mid extract_drop bget bsize wrap64_u8 i64_u8 u64_u8 bappend
attribute [local go_sem] u8m32 u32_add u32_add' u32_xor_w u32_and_w u32_or_w
def z8 : List UInt32 := List.replicate 8 0
theorem info_w8 : (Try.prog.info? 171).map (fun i => i.zero) = some (some (.agg (wvs z8).toArray)) := by kernel_rfl
theorem info_w8n : (Try.prog.info? 171).map (·.size) = some 8 := by kernel_rfl
theorem w8sz (s : W8) : (Try.prog.info? 171).map (·.size) = some (wvs s.list).length := by rw [info_w8n]; rfl
theorem rnds_zero (l : List UInt32) (s : W8) : rnds l s 0 = s := rfl
theorem rnds_succ (l : List UInt32) (s : W8) (k : Nat) : rnds l s (k + 1) = rnd (K64.getD k 0) (l.getD k 0) (rnds l s k) := rfl
theorem mix_def (s : W8) (b : List UInt8) : mix s b = s.add (rnds (sched b 64) s 64) := rfl
theorem u32_not (x : UInt32) : bits BinOp.xor IntKind.u32 IntKind.u32.max (w32 x) = w32 (~~~x) := by
  have h : IntKind.u32.max = w32 4294967295 := by decide
  rw [h, u32_xor_w]
  refine congrArg w32 (UInt32.toBitVec_inj.1 ?_)
  rw [UInt32.toBitVec_xor, UInt32.toBitVec_not]
  exact BitVec.allOnes_xor
attribute [local go_sem] u32_not
theorem turn_any (x : UInt32) (n : Int) (hn : n = 6 ∨ n = 11 ∨ n = 25 ∨ n = 2 ∨ n = 13 ∨ n = 22) (w : World) : Calls Try.prog 116 #[.int .u32 (w32 x), .int .i64 n] w fun r w' => r = .returned (.int .u32 (w32 (rotr x n.toNat))) ∧ w = w' := by
  rcases hn with rfl | rfl | rfl | rfl | rfl | rfl
  · exact turn6 x w
  · exact turn11 x w
  · exact turn25 x w
  · exact turn2 x w
  · exact turn13 x w
  · exact turn22 x w
def addUp (s t : W8) (j : Nat) : List UInt32 := (s.add t).list.take j ++ s.list.drop j
theorem addUp_get (s t : W8) (j : Nat) (h : j < 8) : ∃ x y, (addUp s t j)[j]? = some x ∧ t.list[j]? = some y ∧ (addUp s t j).set j (x + y) = addUp s t (j + 1) ∧ (addUp s t j).length = 8 := by
  rcases (by omega : j = 0 ∨ j = 1 ∨ j = 2 ∨ j = 3 ∨ j = 4 ∨ j = 5 ∨ j = 6 ∨ j = 7) with rfl | rfl | rfl | rfl | rfl | rfl | rfl | rfl <;> exact ⟨_, _, rfl, rfl, rfl, rfl⟩
theorem wset2 (l : List UInt32) (R : List Value) (z : UInt32) (k : Nat) (h : k < l.length) : (wvs l ++ R).toArray.setIfInBounds k (.int .u32 (w32 z)) = (wvs (l.set k z) ++ R).toArray := by
  simp only [List.setIfInBounds_toArray]
  congr 1
  rw [List.set_append, if_pos (by rw [wvs_len]; exact h)]
  simp [wvs, List.map_set, wv]
attribute [local irreducible] sched rnds mix
theorem info_u32n : (Try.prog.info? 168).map (·.size) = some 1 := by kernel_rfl
theorem op_index {P : Program} {w : World} {ops : Array Oper} {rest : List Oper} {o : Oper} {a : Act} {Q : Exit → Act → World → Prop} (hgd : o.guard = none) (t : TypeId) (x y : Operand) (ho : o.op = .index t x y) (cs : List Value) (hx : a.eval x = .agg cs.toArray) (k : Nat) (hy : a.eval y = .int .i64 (k : Int)) (n : Nat) (e : TypeId) (ik : IntKind)
    (ht : P.underlying t = some (.array n e)) (he : P.underlying e = some (.int ik)) (hi : (P.info? e).map (·.size) = some 1) (v : Value) (hv : cs[k]? = some v) (hk : k < n) (h : wpList P ops Q rest (a.put o.dst v) w) : wpList P ops Q (o :: rest) a w := by
  refine wpList_plain hgd fun K hK => ?_
  have hrun : (Instr.index t (.agg cs.toArray) (.int .i64 (k : Int))).run P w = .ok v w := by
    cases hq : P.info? e with
    | none => simp [hq] at hi
    | some i =>
      have hs : i.size = 1 := by simpa [hq] using hi
      have hagg : (isAgg e).run P w = .ok false w := by
        unfold isAgg
        rw [Sem.run_bind, run_underlying he w]
        rfl
      have hk2 : (0 : Int) ≤ (k : Int) ∧ (k : Int) < (n : Int) := by omega
      have hv2 : cs.toArray[k]? = some v := by simpa using hv
      simp [Instr.index, asIntOf, run_underlying ht, hk2, sizeOf, typeInfo, hq, hs]
      rw [if_pos hk]
      simp [Go.part, hagg, hv]
  unfold Oper.wp
  simp only [execOp, ho, Sem.run_bind, hx, hy, hrun, Result.andThen_ok, Sem.run_pure]
  exact hK _ _ h
set_option maxRecDepth 100000 in
set_option maxHeartbeats 8000000 in
theorem block_any (s : W8) (x8 x9 : Value) (b : List UInt8) (ad : Addr) (c g : Nat) (hb : b.length = 64) (hc : 64 ≤ c) (hc2 : c ≤ 9223372036854775807) (w : World)
    (hS : Blk w g 173 (wvs s.list ++ [x8, x9]).toArray) (hR : Rd w 1 (some ad) 64 (bvs b)) (hne : ad.block ≠ g) :
    Calls Try.prog 106 #[.pointer (some ⟨g, 0, none⟩), .slice (some ad) 64 c] w fun r w' => r = .returned (.tuple #[]) ∧ Blk w' g 173 (wvs (mix s b).list ++ [x8, x9]).toArray ∧ Ch [g] w w' := by
  go_enter Try.func106, Try.ntmps106
  go_wp2
  generalize hA0 : Act.mk _ _ = A0
  refine region_inv (fun L a w' => ∃ s4 s5 s13 s14 s15 s16 s17, a = ((((((A0.put (some 4) s4).put (some 5) s5).put (some 13) s13).put (some 14) s14).put (some 15) s15).put (some 16) s16).put (some 17) s17 ∧
    (L.getD 0 false = true → s13 = .pointer (some ⟨g, 0, none⟩)) ∧ (L.getD 1 false = true → s14 = .pointer (some ⟨g, 0, none⟩)) ∧ (L.getD 2 false = true → s15 = .pointer (some ⟨g, 0, none⟩)) ∧
    (L.getD 3 false = true → s16 = .agg (wvs s.list).toArray) ∧ (L.getD 4 false = true → s17 = .agg (wvs K64).toArray) ∧
    (L.getD 5 false = true → ∃ g4, s4 = .pointer (some ⟨g4, 0, none⟩) ∧ w.heap.size ≤ g4 ∧ Blk w' g4 171 (wvs (if L.getD 7 false then s.list else z8)).toArray) ∧
    (L.getD 6 false = true → ∃ g5, s5 = .pointer (some ⟨g5, 0, none⟩) ∧ w.heap.size ≤ g5 ∧ Blk w' g5 180 (wvs (if L.getD 8 false then K64 else z64)).toArray) ∧
    (L.getD 7 false = true → L.getD 5 false = true) ∧ (L.getD 8 false = true → L.getD 6 false = true) ∧ Ch [] w w') (by kernel_rfl) (by kernel_rfl) ?_ ?_ ?_
  · refine ⟨undef, undef, undef, undef, undef, undef, undef, ?_, ?_, ?_, ?_, ?_, ?_, ?_, ?_, ?_, ?_, (Ch.refl _ _).drew⟩
    · subst hA0
      simp only [Act.put, List.setIfInBounds_toArray, List.set_cons_zero, List.set_cons_succ]
    all_goals (intro h; simp at h)
  · intro L a w' hs ⟨s4, s5, s13, s14, s15, s16, s17, ha, f0, f1, f2, f3, f4, f5, f6, f7, f8, hC⟩ i o ho hbi hd K hK
    have hs : L.size = 9 := hs
    have hi : i < 9 := by
      rcases Nat.lt_or_ge i 9 with h | h
      · exact h
      · rw [Array.getElem?_eq_none (by simpa using h)] at ho; cases ho
    have hbi' : L.getD i false = false := by
      have : i < L.size := by omega
      simpa [Array.getD, this] using hbi
    have b7 : L.getD 5 false = false → L.getD 7 false = false := fun h => by
      rcases h7 : L.getD 7 false with _ | _
      · rfl
      · rw [f7 h7] at h; cases h
    have b8 : L.getD 6 false = false → L.getD 8 false = false := fun h => by
      rcases h7 : L.getD 8 false with _ | _
      · rfl
      · rw [f8 h7] at h; cases h
    have b7' : L.getD 7 false = false → L.getD 7 false = false := id
    have b8' : L.getD 8 false = false → L.getD 8 false = false := id
    subst ha hA0
    clear hbi
    rcases (by omega : i = 0 ∨ i = 1 ∨ i = 2 ∨ i = 3 ∨ i = 4 ∨ i = 5 ∨ i = 6 ∨ i = 7 ∨ i = 8) with rfl | rfl | rfl | rfl | rfl | rfl | rfl | rfl | rfl
    · simp only [List.getElem?_toArray, List.getElem?_cons_zero, List.getElem?_cons_succ, Option.some.injEq] at ho; subst ho
      clear hd
      refine stepOf_plain rfl ?_
      simp only [Act.put, List.setIfInBounds_toArray, List.set_cons_zero, List.set_cons_succ]
      go_simp
      exact hK _ _ ⟨s4, s5, (.pointer (some ⟨g, 0, none⟩)), s14, s15, s16, s17, (by simp only [Act.put, List.setIfInBounds_toArray, List.set_cons_zero, List.set_cons_succ]), (fun _ => rfl), keep_ (by decide) f1, keep_ (by decide) f2, keep_ (by decide) f3, keep_ (by decide) f4, (by rw [done_ne (by decide), done_ne (by decide)]; exact f5), (by rw [done_ne (by decide), done_ne (by decide)]; exact f6), (by rw [done_ne (by decide), done_ne (by decide)]; exact f7), (by rw [done_ne (by decide), done_ne (by decide)]; exact f8), hC⟩
    · simp only [List.getElem?_toArray, List.getElem?_cons_zero, List.getElem?_cons_succ, Option.some.injEq] at ho; subst ho
      obtain rfl := f0 (hd ⟨0, .data⟩ (by simp) rfl)
      clear hd
      refine stepOf_plain rfl ?_
      simp only [Act.put, List.setIfInBounds_toArray, List.set_cons_zero, List.set_cons_succ]
      go_simp
      exact hK _ _ ⟨s4, s5, _, (.pointer (some ⟨g, 0, none⟩)), s15, s16, s17, (by simp only [Act.put, List.setIfInBounds_toArray, List.set_cons_zero, List.set_cons_succ]), (fun _ => rfl), (fun _ => rfl), keep_ (by decide) f2, keep_ (by decide) f3, keep_ (by decide) f4, (by rw [done_ne (by decide), done_ne (by decide)]; exact f5), (by rw [done_ne (by decide), done_ne (by decide)]; exact f6), (by rw [done_ne (by decide), done_ne (by decide)]; exact f7), (by rw [done_ne (by decide), done_ne (by decide)]; exact f8), hC⟩
    · simp only [List.getElem?_toArray, List.getElem?_cons_zero, List.getElem?_cons_succ, Option.some.injEq] at ho; subst ho
      obtain rfl := f1 (hd ⟨1, .data⟩ (by simp) rfl)
      clear hd
      refine stepOf_plain rfl ?_
      simp only [Act.put, List.setIfInBounds_toArray, List.set_cons_zero, List.set_cons_succ]
      go_simp
      exact hK _ _ ⟨s4, s5, s13, _, (.pointer (some ⟨g, 0, none⟩)), s16, s17, (by simp only [Act.put, List.setIfInBounds_toArray, List.set_cons_zero, List.set_cons_succ]), keep_ (by decide) f0, (fun _ => rfl), (fun _ => rfl), keep_ (by decide) f3, keep_ (by decide) f4, (by rw [done_ne (by decide), done_ne (by decide)]; exact f5), (by rw [done_ne (by decide), done_ne (by decide)]; exact f6), (by rw [done_ne (by decide), done_ne (by decide)]; exact f7), (by rw [done_ne (by decide), done_ne (by decide)]; exact f8), hC⟩
    · simp only [List.getElem?_toArray, List.getElem?_cons_zero, List.getElem?_cons_succ, Option.some.injEq] at ho; subst ho
      obtain rfl := f2 (hd ⟨2, .data⟩ (by simp) rfl)
      clear hd
      simp only [Act.put, List.setIfInBounds_toArray, List.set_cons_zero, List.set_cons_succ]
      refine step_load_at rfl 171 (.tmp 15) rfl ⟨g, 0, none⟩ rfl (wvs s.list) _ (fun j v hv => ?_) Try.underlying171 rfl (w8sz s) ?_
      · rw [add_lit, (hS.ch0 hC).cell]; simpa [List.getElem?_append_left (List.getElem?_eq_some_iff.1 hv).1] using hv
      exact hK _ _ ⟨s4, s5, s13, s14, _, (.agg (wvs s.list).toArray), s17, (by simp only [Act.put, List.setIfInBounds_toArray, List.set_cons_zero, List.set_cons_succ]), keep_ (by decide) f0, keep_ (by decide) f1, (fun _ => rfl), (fun _ => rfl), keep_ (by decide) f4, (by rw [done_ne (by decide), done_ne (by decide)]; exact f5), (by rw [done_ne (by decide), done_ne (by decide)]; exact f6), (by rw [done_ne (by decide), done_ne (by decide)]; exact f7), (by rw [done_ne (by decide), done_ne (by decide)]; exact f8), hC⟩
    · simp only [List.getElem?_toArray, List.getElem?_cons_zero, List.getElem?_cons_succ, Option.some.injEq] at ho; subst ho
      clear hd
      refine stepOf_plain rfl ?_
      simp only [Act.put, List.setIfInBounds_toArray, List.set_cons_zero, List.set_cons_succ]
      go_simp
      refine (rounds_any _).mono ?_
      rintro r w2 ⟨rfl, hC2⟩
      exact hK _ _ ⟨s4, s5, s13, s14, s15, s16, (.agg (wvs K64).toArray), (by simp only [Act.put, List.setIfInBounds_toArray, List.set_cons_zero, List.set_cons_succ]), keep_ (by decide) f0, keep_ (by decide) f1, keep_ (by decide) f2, keep_ (by decide) f3, (fun _ => rfl), (by rw [done_ne (by decide), done_ne (by decide)]; exact (fun h => (f5 h).imp fun _ h => ⟨h.1, h.2.1, h.2.2.ch0 hC2⟩)), (by rw [done_ne (by decide), done_ne (by decide)]; exact (fun h => (f6 h).imp fun _ h => ⟨h.1, h.2.1, h.2.2.ch0 hC2⟩)), (by rw [done_ne (by decide), done_ne (by decide)]; exact f7), (by rw [done_ne (by decide), done_ne (by decide)]; exact f8), hC.trans hC2⟩
    · simp only [List.getElem?_toArray, List.getElem?_cons_zero, List.getElem?_cons_succ, Option.some.injEq] at ho; subst ho
      clear hd
      refine step_alloc rfl 171 rfl (wvs z8).toArray info_w8 ?_
      intro gn w2 hbn hgn hln hC2
      exact hK _ _ ⟨(.pointer (some ⟨gn, 0, none⟩)), s5, s13, s14, s15, s16, s17, (by simp only [Act.put, List.setIfInBounds_toArray, List.set_cons_zero, List.set_cons_succ]), keep_ (by decide) f0, keep_ (by decide) f1, keep_ (by decide) f2, keep_ (by decide) f3, keep_ (by decide) f4, (fun _ => ⟨gn, rfl, Nat.le_trans hC.size hgn, by rw [done_ne (by decide), b7 hbi']; exact hbn⟩), (by rw [done_ne (by decide), done_ne (by decide)]; exact (fun h => (f6 h).imp fun _ h => ⟨h.1, h.2.1, h.2.2.ch0 hC2⟩)), (fun _ => done_eq (by omega)), (by rw [done_ne (by decide), done_ne (by decide)]; exact f8), hC.trans hC2⟩
    · simp only [List.getElem?_toArray, List.getElem?_cons_zero, List.getElem?_cons_succ, Option.some.injEq] at ho; subst ho
      clear hd
      refine step_alloc rfl 180 rfl (wvs z64).toArray info_w64 ?_
      intro gn w2 hbn hgn hln hC2
      exact hK _ _ ⟨s4, (.pointer (some ⟨gn, 0, none⟩)), s13, s14, s15, s16, s17, (by simp only [Act.put, List.setIfInBounds_toArray, List.set_cons_zero, List.set_cons_succ]), keep_ (by decide) f0, keep_ (by decide) f1, keep_ (by decide) f2, keep_ (by decide) f3, keep_ (by decide) f4, (by rw [done_ne (by decide), done_ne (by decide)]; exact (fun h => (f5 h).imp fun _ h => ⟨h.1, h.2.1, h.2.2.ch0 hC2⟩)), (fun _ => ⟨gn, rfl, Nat.le_trans hC.size hgn, by rw [done_ne (by decide), b8 hbi']; exact hbn⟩), (by rw [done_ne (by decide), done_ne (by decide)]; exact f7), (fun _ => done_eq (by omega)), hC.trans hC2⟩
    · simp only [List.getElem?_toArray, List.getElem?_cons_zero, List.getElem?_cons_succ, Option.some.injEq] at ho; subst ho
      have D5 : L.getD 5 false = true := hd ⟨5, .data⟩ (by simp) rfl
      have D3 : L.getD 3 false = true := hd ⟨3, .data⟩ (by simp) rfl
      obtain ⟨gn, rfl, hgn, hbn⟩ := f5 D5
      obtain rfl := f3 D3
      clear hd
      rw [b7' hbi'] at hbn
      simp only [Act.put, List.setIfInBounds_toArray, List.set_cons_zero, List.set_cons_succ]
      refine step_store rfl 171 (.tmp 4) (.tmp 16) rfl gn rfl 171 (wvs s.list).toArray (wvs z8).toArray rfl hbn (by simp [wvs_len, z8, W8.list]) (by rw [info_w8n]; rfl) (by simpa using wvs_one _) ?_
      intro w2 hb2 hC2
      exact hK _ _ ⟨_, s5, s13, s14, s15, _, s17, (by simp only [Act.put, List.setIfInBounds_toArray, List.set_cons_zero, List.set_cons_succ]), keep_ (by decide) f0, keep_ (by decide) f1, keep_ (by decide) f2, (fun _ => rfl), keep_ (by decide) f4, (fun _ => ⟨gn, rfl, hgn, by rw [done_eq (by omega)]; exact hb2⟩), (by rw [done_ne (by decide), done_ne (by decide)]; exact fun h => (f6 h).imp fun g9 h => ⟨h.1, h.2.1, h.2.2.ch hC2 (by simp; exact h.2.2.ne_ hbn (by decide))⟩), (fun _ => by rw [done_ne (by decide)]; exact D5), (by rw [done_ne (by decide), done_ne (by decide)]; exact f8), hC.one hC2 (.inr hgn)⟩
    · simp only [List.getElem?_toArray, List.getElem?_cons_zero, List.getElem?_cons_succ, Option.some.injEq] at ho; subst ho
      have D6 : L.getD 6 false = true := hd ⟨6, .data⟩ (by simp) rfl
      have D4 : L.getD 4 false = true := hd ⟨4, .data⟩ (by simp) rfl
      obtain ⟨gn, rfl, hgn, hbn⟩ := f6 D6
      obtain rfl := f4 D4
      clear hd
      rw [b8' hbi'] at hbn
      simp only [Act.put, List.setIfInBounds_toArray, List.set_cons_zero, List.set_cons_succ]
      refine step_store rfl 180 (.tmp 5) (.tmp 17) rfl gn rfl 180 (wvs K64).toArray (wvs z64).toArray rfl hbn (by simp [wvs_len, z64_len, K64_len]) (w64sz _ K64_len) (by simpa using wvs_one _) ?_
      intro w2 hb2 hC2
      exact hK _ _ ⟨s4, _, s13, s14, s15, s16, _, (by simp only [Act.put, List.setIfInBounds_toArray, List.set_cons_zero, List.set_cons_succ]), keep_ (by decide) f0, keep_ (by decide) f1, keep_ (by decide) f2, keep_ (by decide) f3, (fun _ => rfl), (by rw [done_ne (by decide), done_ne (by decide)]; exact fun h => (f5 h).imp fun g9 h => ⟨h.1, h.2.1, h.2.2.ch hC2 (by simp; exact h.2.2.ne_ hbn (by decide))⟩), (fun _ => ⟨gn, rfl, hgn, by rw [done_eq (by omega)]; exact hb2⟩), (by rw [done_ne (by decide), done_ne (by decide)]; exact f7), (fun _ => by rw [done_ne (by decide)]; exact D6), hC.one hC2 (.inr hgn)⟩
  · intro L a w' ⟨s4, s5, s13, s14, s15, s16, s17, ha, f0, f1, f2, f3, f4, f5, f6, f7, f8, hC⟩ hall
    have e0 := f0 (hall 0 (by decide))
    have e1 := f1 (hall 1 (by decide))
    have e2 := f2 (hall 2 (by decide))
    have e3 := f3 (hall 3 (by decide))
    have e4 := f4 (hall 4 (by decide))
    obtain ⟨g4, e5, h4, b4⟩ := f5 (hall 5 (by decide))
    obtain ⟨g5, e6, h5, b5⟩ := f6 (hall 6 (by decide))
    rw [hall 7 (by decide)] at b4
    rw [hall 8 (by decide)] at b5
    simp only [if_true] at b4 b5
    clear f0 f1 f2 f3 f4 f5 f6 f7 f8 hall
    subst e0 e1 e2 e3 e4 e5 e6 ha hA0
    simp only [Act.put, List.setIfInBounds_toArray, List.set_cons_zero, List.set_cons_succ]
    have hRb := hR.ch0 hC
    have hSb := hS.ch0 hC
    have hg := hS.lt
    clear hS hR
    go_wp2_with (go_at_call 115; refine (spread_any b ad c hb hc hc2 _ hRb).mono ?_; rintro r w2 ⟨rfl, hC2⟩)
    have hbv := b4.ch0 hC2
    have hbt := b5.ch0 hC2
    have hg45 : g4 ≠ g5 := b4.ne_ b5 (by decide)
    have hwl : (sched b 64).length = 64 := sched_len b 64
    clear b4 b5 hRb
    go_loopw [20] (fun i wr => ∃ (k : Nat), k ≤ 64 ∧ i = .int .i64 k ∧ Blk wr g4 171 (wvs (rnds (sched b 64) s k).list).toArray ∧ Ch [g4] w2 wr) (fun i _ => 64 - (intOf i).toNat)
    case atStart => exact ⟨0, by omega, rfl, by rw [rnds_zero]; exact hbv, Ch.refl _ _⟩
    case round =>
      obtain ⟨k, hk, rfl, hbk, hCk⟩ := hrel
      by_cases hlt : k < 64
      · as_aux_lemma =>
        have hbtk := hbt.ch hCk (by simpa using Ne.symm hg45)
        obtain ⟨x, hx⟩ : ∃ x, (sched b 64)[k]? = some x := ⟨_, List.getElem?_eq_getElem (by omega)⟩
        obtain ⟨y, hy⟩ : ∃ y, K64[k]? = some y := ⟨_, List.getElem?_eq_getElem (by rw [K64_len]; omega)⟩
        have hnx : rnds (sched b 64) s (k + 1) = rnd y x (rnds (sched b 64) s k) := by
          rw [rnds_succ, List.getD_eq_getElem?_getD, List.getD_eq_getElem?_getD, hx, hy]; rfl
        have ck := wget hbtk k y hy
        have cx : (wvs (sched b 64))[k]? = some (.int .u32 (w32 x)) := wvs_get _ _ _ hx
        have CX := Lib.hid cx
        have HX := Lib.hid hnx
        clear hnx hx hy hbtk cx
        obtain ⟨σ, hσ⟩ : ∃ σ, σ = rnds (sched b 64) s k := ⟨_, rfl⟩
        rw [← hσ] at hbk
        have HS := Lib.hid hσ
        clear hσ
        obtain ⟨a0, b0, c0, d0, e0, f0, g0, h0⟩ := σ
        have z0 : wr.cell? ⟨g4, 0, none⟩ = some (.int .u32 (w32 a0)) := by rw [hbk.cell]; rfl
        have z1 : wr.cell? ⟨g4, 1, none⟩ = some (.int .u32 (w32 b0)) := by rw [hbk.cell]; rfl
        have z2 : wr.cell? ⟨g4, 2, none⟩ = some (.int .u32 (w32 c0)) := by rw [hbk.cell]; rfl
        have z3 : wr.cell? ⟨g4, 3, none⟩ = some (.int .u32 (w32 d0)) := by rw [hbk.cell]; rfl
        have z4 : wr.cell? ⟨g4, 4, none⟩ = some (.int .u32 (w32 e0)) := by rw [hbk.cell]; rfl
        have z5 : wr.cell? ⟨g4, 5, none⟩ = some (.int .u32 (w32 f0)) := by rw [hbk.cell]; rfl
        have z6 : wr.cell? ⟨g4, 6, none⟩ = some (.int .u32 (w32 g0)) := by rw [hbk.cell]; rfl
        have z7 : wr.cell? ⟨g4, 7, none⟩ = some (.int .u32 (w32 h0)) := by rw [hbk.cell]; rfl
        go_wp2_with (refine op_index rfl 180 (.tmp 19) (.tmp 20) rfl (wvs (sched b 64)) rfl k rfl 64 168 _ Try.underlying180 Try.underlying168 info_u32n _ CX.out hlt ?_)
        go_region
        go_wp2
        go_region
        go_wp2_with (go_at_call 116; refine (turn_any _ _ ?h _).mono ?_; (case h => decide); rintro r w' ⟨rfl, rfl⟩; (try simp only [Int.toNat_ofNat, Int.reduceToNat]))
        obtain ⟨w9, hW⟩ : ∃ x, x = World.drew (World.drew wr) := ⟨_, rfl⟩
        rw [← hW]
        have hb9 : Blk w9 g4 171 (wvs (W8.list ⟨a0, b0, c0, d0, e0, f0, g0, h0⟩)).toArray := by rw [hW]; exact hbk
        have C9 : Ch [g4] w2 w9 := by rw [hW]; exact hCk.drewN 2
        clear hW hbk hCk z0 z1 z2 z3 z4 z5 z6 z7 ck
        go_region_law (refine step_copy_row rfl (.tmp 81) (.tmp 82) 178 178 rfl 168 Try.underlying178 info_u32n g4 1 7 7 171 (wvs (W8.list ⟨a0, b0, c0, d0, e0, f0, g0, h0⟩)).toArray ⟨g4, 0, none⟩ 8 (wvs [a0, b0, c0, d0, e0, f0, g0]) rfl rfl rfl (fun j u hj => by rw [add_lit, hb9.drew.cell]; rcases (by simp [wvs] at hj; have := (List.getElem?_eq_some_iff.1 hj).1; simpa [wvs] using this : j < 7) with hj7; rcases (by omega : j = 0 ∨ j = 1 ∨ j = 2 ∨ j = 3 ∨ j = 4 ∨ j = 5 ∨ j = 6) with rfl | rfl | rfl | rfl | rfl | rfl | rfl <;> exact hj) hb9.drew (by simp [wvs, W8.list]) (wvs_one _) ?_; intro w10 hb10 hC10)
        have hb11 : Blk w10 g4 171 (wvs [a0, a0, b0, c0, d0, e0, f0, g0]).toArray := hb10
        have z4 : w10.cell? ⟨g4, 4, none⟩ = some (.int .u32 (w32 d0)) := by rw [hb11.cell]; rfl
        have z0 : w10.cell? ⟨g4, 0, none⟩ = some (.int .u32 (w32 a0)) := by rw [hb11.cell]; rfl
        have y0 := hb11.frozen 0
        have y4 := hb11.frozen 4
        have C11 := C9.drew.trans hC10
        clear hb10 hb9 C9 hC10
        go_wp2
        go_roundw
        case rel =>
          refine ⟨k + 1, by omega, by go_num, ?_, ((C11.setCell (.inl (by simp)) _).setCell (.inl (by simp)) _)⟩
          rw [HX.out, ← HS.out]
          have hf := (hb11.set_ 4 (.int .u32 (w32 (d0 + (h0 + y + x + (rotr e0 6 ^^^ rotr e0 11 ^^^ rotr e0 25) + (e0 &&& f0 ||| ~~~e0 &&& g0)))))).set_ 0 (.int .u32 (w32 (h0 + y + x + (rotr e0 6 ^^^ rotr e0 11 ^^^ rotr e0 25) + (e0 &&& f0 ||| ~~~e0 &&& g0) + ((rotr a0 2 ^^^ rotr a0 13 ^^^ rotr a0 22) + (a0 &&& (b0 ||| c0) ||| b0 &&& c0)))))
          exact hf
        case measure => simp [intOf]; omega
      · obtain rfl : k = 64 := by omega
        have hSk := (hSb.ch0 hC2).ch hCk (by simp; omega)
        have hgw : g < w2.heap.size := (hSb.ch0 hC2).lt
        have hg4 : g4 ≠ g := by omega
        have hmx := mix_def s b
        obtain ⟨t, ht⟩ : ∃ t, t = rnds (sched b 64) s 64 := ⟨_, rfl⟩
        rw [← ht] at hbk hmx
        have Cw : Ch [] w wr := (hC.trans hC2).one hCk (.inr h4)
        have HM := Lib.hid hmx
        clear hmx ht hbt hbv hSb hCk hC hC2
        go_wp2
        obtain ⟨wq, rfl⟩ : ∃ wq : World, wq = wr := ⟨_, rfl⟩
        go_loopw [94] (fun i wr => ∃ (j : Nat), j ≤ 8 ∧ i = .int .i64 j ∧ Blk wr g 173 (wvs (addUp s t j) ++ [x8, x9]).toArray ∧ Ch [g] wq wr) (fun i _ => 8 - (intOf i).toNat)
        case atStart => exact ⟨0, by omega, rfl, hSk, Ch.refl _ _⟩
        case round =>
          obtain ⟨j, hj, rfl, hbj, hCj⟩ := hrel
          by_cases hlt : j < 8
          · as_aux_lemma =>
            have hb4 := hbk.ch hCj (by simpa using hg4)
            obtain ⟨x, y, hx, hy, hset, hl⟩ := addUp_get s t j hlt
            have cg : wr.cell? ⟨g, j, none⟩ = some (.int .u32 (w32 x)) := by
              rw [hbj.cell]
              have := wvs_get _ _ _ hx
              simpa [List.getElem?_append_left (List.getElem?_eq_some_iff.1 this).1] using this
            have fg := hbj.frozen j
            have c4 := wget hb4 j y hy
            have hst := hbj.set_ j (.int .u32 (w32 (x + y)))
            rw [wset2 _ _ _ _ (by rw [hl]; exact hlt), hset] at hst
            have HST := Lib.hid hst
            clear hst hset hx hy hbj hb4
            go_wp2
            go_region
            all_goals (go_wp2; go_roundw)
            case rel => exact ⟨j + 1, by omega, by go_num, HST.out, (hCj.setCell (p := ⟨g, j, none⟩) (.inl (by simp)) (.int .u32 (w32 (x + y)))).drew⟩
            case measure => simp [intOf]; omega
          · obtain rfl : j = 8 := by omega
            go_wp2
            go_end0
            refine ⟨rfl, ?_, Cw.more.trans hCj⟩
            rw [HM.out]
            simpa [addUp, W8.list] using hbj
end Go.Proofs.Ytlhedbjjlomniaa
set_option linter.unusedSimpArgs false
set_option linter.unusedVariables false
namespace Go.Proofs.Ytlhedbjjlomniaa
/-- The words behind all whole blocks of l. -/
def hst (l : List UInt8) : W8 := mixN iv0 (l.length / 64) l
/-- What is left of l behind its whole blocks. -/
def rest (l : List UInt8) : List UInt8 := l.drop (64 * (l.length / 64))
theorem rest_len (l : List UInt8) : (rest l).length = l.length % 64 := by simp [rest]; omega
theorem hst_app (a b : List UInt8) : hst (a ++ b) = mixN (hst a) ((rest a ++ b).length / 64) (rest a ++ b) := by
  have h1 : (a ++ b).length / 64 = a.length / 64 + (rest a ++ b).length / 64 := by simp only [List.length_append, rest_len]; omega
  unfold hst
  rw [h1, mixN_add, mixN_app _ _ _ _ (by omega)]
  congr 1
  rw [List.drop_append_of_le_length (by omega)]
  rfl
theorem rest_app (a b : List UInt8) : rest (a ++ b) = (rest a ++ b).drop (64 * ((rest a ++ b).length / 64)) := by
  have h1 : (a ++ b).length / 64 = a.length / 64 + (rest a ++ b).length / 64 := by simp only [List.length_append, rest_len]; omega
  have h2 : rest a ++ b = (a ++ b).drop (64 * (a.length / 64)) := by rw [List.drop_append_of_le_length (by omega)]; rfl
  conv => lhs; rw [rest, h1, Nat.mul_add, ← List.drop_drop, ← h2]
theorem mixN_succ_last (s : W8) (k : Nat) (l : List UInt8) : mixN s (k + 1) l = mix (mixN s k l) ((l.drop (64 * k)).take 64) := by rw [mixN_add]; simp only [mixN]
end Go.Proofs.Ytlhedbjjlomniaa
set_option linter.unusedSimpArgs false
set_option linter.unusedVariables false
namespace Go.Proofs.Ytlhedbjjlomniaa
open Go.RowKit
attribute [local go_sem] extract_mid extract_drop bget bsize wrap64_u8 i64_u8 u64_u8 bappend
theorem block_star {L : List SProp} (s : W8) (x8 x9 : Value) (b : List UInt8) (ad : Addr) (c g : Nat) (hb : b.length = 64) (hc : 64 ≤ c) (hc2 : c ≤ 9223372036854775807) (w : World)
    (hM : Star (cellsE g 173 (wvs s.list ++ [x8, x9]).toArray :: L) w) (hR : Rd w 1 (some ad) 64 (bvs b)) (hne : ad.block ≠ g) :
    Calls Try.prog 106 #[.pointer (some ⟨g, 0, none⟩), .slice (some ad) 64 c] w fun r w' => r = .returned (.tuple #[]) ∧ Star (cellsE g 173 (wvs (mix s b).list ++ [x8, x9]).toArray :: L) w' :=
  (block_any s x8 x9 b ad c g hb hc hc2 w hM.head hR hne).mono fun _ _ ⟨h1, h2, h3⟩ => ⟨h1, hM.put (bs := [g]) rfl h3 (fun b hb => .inl (List.mem_singleton.1 hb)) h2 fun k hk => .inl hk⟩
abbrev stC (s : W8) (x y : Value) : Array Value := (wvs s.list ++ [x, y]).toArray
/-- A sum of the bytes l: its cells. -/
def shCells (l : List UInt8) (A : Option Addr) (n c : Nat) : Array Value := (wvs (hst l).list ++ [Value.slice A n c, Value.int .u64 (l.length : Int)]).toArray
set_option maxRecDepth 100000 in
theorem new_star {F : List SProp} (w : World) (hM : Star F w) :
    Calls Try.prog 80 #[] w fun r w' => ∃ g, r = .returned (.pointer (some ⟨g, 0, none⟩)) ∧ Star (tailE 5 1 none 0 0 (bvs (rest [])) :: cellsE g 173 (shCells [] none 0 0) :: F) w' := by
  go_enter Try.func80, Try.ntmps80
  go_wp2_with (first | (refine build_any rfl _ _ rfl _ (by kernel_rfl) ?_) | (first | (have hM0 := hM; clear hM; refine BigFrame.wpList_want (by rfl) fun K hK => ws_box hM0 rfl rfl rfl (fun g w hM => hK _ _ ?_); clear hM0 hK K) | fail))
  go_ret
  exact ⟨_, rfl, hM.niltail _ _⟩
theorem sh_at8 (s : W8) (x y : Value) : (wvs s.list ++ [x, y]).toArray[8]? = some x := rfl
theorem sh_at9 (s : W8) (x y : Value) : (wvs s.list ++ [x, y]).toArray[9]? = some y := rfl
theorem sh_set8 (s : W8) (x y z : Value) : (wvs s.list ++ [x, y]).toArray.setIfInBounds 8 z = (wvs s.list ++ [z, y]).toArray := rfl
theorem sh_set9 (s : W8) (x y z : Value) : (wvs s.list ++ [x, y]).toArray.setIfInBounds 9 z = (wvs s.list ++ [x, z]).toArray := rfl
theorem Tail.some_ {w : World} {e : TypeId} {size : Nat} {A : Option Addr} {n c : Nat} {xs : List Value} (h : Tail w e size A n c xs) (hn : 0 < c) : ∃ g off, A = some ⟨g, off, none⟩ := by
  obtain ⟨_, _, _, ⟨_, h⟩ | ⟨g, off, _, h, _⟩⟩ := h
  · omega
  · exact ⟨g, off, h⟩
theorem Tail.ne_ {w : World} {e t : TypeId} {size : Nat} {g off n c : Nat} {xs : List Value} {g' : Nat} {cs : Array Value} (h : Tail w e size (some ⟨g, off, none⟩) n c xs) (h' : Blk w g' t cs) (hne : e ≠ t) : g ≠ g' := by
  obtain ⟨_, _, _, ⟨h, _⟩ | ⟨g2, off2, cur, h, hb, _⟩⟩ := h
  · cases h
  · injection h with h; injection h with h; subst h; exact hb.ne_ h' hne
theorem cat_take_snoc {l : List (List UInt8)} {k : Nat} {d : List UInt8} (h : l.take (k + 1) = l.take k ++ [d]) : cat (l.take (k + 1)) = cat (l.take k) ++ d := by rw [h, cat_snoc]
theorem bvs_take (l : List UInt8) (k : Nat) : (bvs l).take k = bvs (l.take k) := (List.map_take).symm
theorem bvs_drop (l : List UInt8) (k : Nat) : (bvs l).drop k = bvs (l.drop k) := (List.map_drop).symm
theorem Star.tail_first {L : List SProp} {w : World} {e : TypeId} {A : Option Addr} {n c k : Nat} {l : List UInt8} (h : Star L w) (hx : tailE e 1 A n c (bvs l) ∈ L) (hk : k ≤ n) : Rd w 1 A k (bvs (l.take k)) := by
  have := (h.tail_row hx).take_ hk
  rwa [bvs_take] at this
set_option maxRecDepth 100000 in
set_option maxHeartbeats 2000000 in
theorem write_star_b {F : List SProp} (g : Nat) (all : List UInt8) (ps : List (List UInt8)) (As : Option Addr) (np cp : Nat) (hps : all.length + (cat ps).length ≤ 140737488355000) (hnp : np ≤ 1000) (A : Option Addr) (n c : Nat) (w : World)
    (hM : Star (tailE 5 1 A n c (bvs (rest all)) :: cellsE g 173 (shCells all A n c) :: F) w) (hF : rowE 1 As np (svs ps) ∈ F) :
    Calls Try.prog 81 #[.pointer (some ⟨g, 0, none⟩), .slice As np cp] w fun r w' => ∃ A' n' c', r = .returned (.pointer (some ⟨g, 0, none⟩)) ∧ Star (tailE 5 1 A' n' c' (bvs (rest (all ++ cat ps))) :: cellsE g 173 (shCells (all ++ cat ps) A' n' c') :: F) w' := by
  have HL := Lib.hid (svs_row (hM.row (A := As) (n := np) (xs := svs ps) (by simp [hF])))
  have HP := Lib.hid hps
  clear hps
  go_enter Try.func81, Try.ntmps81
  go_wp2_with fail
  go_loopw [9] (fun i wr => ∃ (k : Nat) (A : Option Addr) (n c : Nat), k ≤ np ∧ i = .int .i64 k ∧ Star (tailE 5 1 A n c (bvs (rest (all ++ cat (ps.take k)))) :: cellsE g 173 (shCells (all ++ cat (ps.take k)) A n c) :: F) wr) (fun i _ => np - (intOf i).toNat)
  case atStart => exact ⟨0, A, n, c, by omega, rfl, by simpa [cat] using hM⟩
  case round =>
    clear hM
    obtain ⟨k, A, n, c, hk, rfl, hM⟩ := hrel
    by_cases hlt : k < np
    · obtain ⟨ad, d, rfl, hv, hg, ht⟩ := hM.elemS (A := As) (n := np) (l := ps) (by simp [hF]) hlt
      have hdl := cat_mem_le ps d (List.mem_of_getElem? hg)
      have hct := cat_take_all ps k
      have hps := HP.out
      have HT := Lib.hid (cat_take_snoc ht)
      obtain ⟨cur, hcur⟩ : ∃ x, x = all ++ cat (ps.take k) := ⟨_, rfl⟩
      have hcl : cur.length ≤ 140737488355000 := by rw [hcur, List.length_append]; omega
      have hdl2 : d.length ≤ 140737488355000 := by omega
      rw [← hcur] at hM
      have HC := Lib.hid hcur
      have hrl := rest_len cur
      have hnl : n = (rest cur).length := by have := (hM.tail_row (by simp : tailE 5 1 A n c (bvs (rest cur)) ∈ _)).len; rw [bvs_len] at this; exact this.symm
      obtain rfl := hnl
      unfold shCells at hM
      obtain ⟨X, hX⟩ : ∃ x, x = rest cur ++ d := ⟨_, rfl⟩
      have hXl : X.length = (rest cur).length + d.length := by rw [hX, List.length_append]
      have hr64 : (rest cur).length < 64 := by rw [hrl]; omega
      have HX := Lib.hid hX
      have HXL := Lib.hid hXl
      clear ht hg hcur hX hXl hct hrl hdl hps
      have hF2 : ∀ (y : SProp) (L : List SProp), y ∈ L → y ∈ L := fun _ _ h => h
      go_wp2_with (first | (first | (refine BigFrame.wpList_want (by rfl) fun K hK => ws_rowload rfl rfl (by first | (apply Star.row hM; (repeat (first | assumption | (with_reducible exact mZ) | apply mS)); done) | (apply Star.own hM; (repeat (first | assumption | (with_reducible exact mZ) | apply mS)); done) | (apply Star.arr hM; (focus ((repeat (first | assumption | (with_reducible exact mZ) | apply mS)); done)); assumption)) (by assumption) (by kernel_rfl) (hK _ _ ?_); clear hK K) | fail) | (first | (refine BigFrame.wpList_want (by rfl) fun K hK => ws_load1 hM rfl rfl (by (repeat (first | assumption | (with_reducible exact mZ) | apply mS)); first | done | fail) (by first | exact sh_at8 _ _ _ | exact sh_at9 _ _ _) (by kernel_rfl) (hK _ _ ?_); clear hK K) | fail) | (first | (have hM0 := hM; clear hM; refine BigFrame.wpList_want (by rfl) fun K hK => ws_store1 hM0 rfl rfl (by go_simp; rfl) (by first | rfl | assumption) (by (repeat (first | (with_reducible exact Take.head) | apply Take.tail)); first | done | fail) (by first | exact (by decide : 8 < 10) | exact (by decide : 9 < 10)) (by kernel_rfl) (by first | exact sh_set8 _ _ _ _ | exact sh_set9 _ _ _ _) (fun w hM => hK _ _ ?_); clear hM0 hK K) | fail) | (have hM0 := hM; clear hM; refine BigFrame.wpList_want (by rfl) fun K hK => ws_app_big hM0 rfl rfl 5 (.int .u8 0) 1 1 Try.underlying80 (by kernel_rfl) (by rfl) (by (repeat (first | (with_reducible exact Take.head) | apply Take.tail)); first | done | fail) (src_str Try.underlying9 d) (by omega) (by unfold maxLen; omega) (fun A1 c1 w hM => hK _ _ ?_); clear hM0 hK K; (try simp only [Nat.zero_add, Nat.add_zero, List.nil_append, List.append_nil, ← bvs_app] at hM)))
      replace hM : Star (tailE 5 1 A1 ((rest cur).length + d.length) c1 (bvs X) :: cellsE g 173 (stC (hst cur) (.slice A1 ((rest cur).length + d.length) c1) (.int .u64 ((cur.length : Int) + (d.length : Int)))) :: F) w := by rw [HX.out]; exact hM.sel (by repeat (first | (with_reducible exact Sel.refl) | (with_reducible exact Take.head) | (with_reducible apply Take.tail) | (with_reducible apply Sel.cons) | (with_reducible apply Sel.drop)))
      rw [← HXL.out] at hM
      go_frame
      go_loopg [] (X.length / 64) (fun gk wx => ∃ (j n : Nat) (A : Option Addr) (c : Nat), gk = X.length / 64 - j ∧ j ≤ X.length / 64 ∧ Hid (n = X.length - 64 * j) ∧ Star (tailE 5 1 A n c (bvs (X.drop (64 * j))) :: cellsE g 173 (stC (mixN (hst cur) j X) (.slice A n c) (.int .u64 ((cur.length : Int) + (d.length : Int)))) :: F) wx)
      case atStart => exact ⟨0, X.length, A1, c1, by omega, by omega, (by show _ = _; omega), by simpa [mixN] using hM⟩
      case round =>
        clear hM
        obtain ⟨j, n, A, c, hgk, hj, hn, hM⟩ := hrel
        by_cases hjl : j < X.length / 64
        · have hT : Tail wr 5 1 A n c (bvs (X.drop (64 * j))) := hM.head
          have hn64 : 64 ≤ n := by have := hn.out; omega
          have hnc : n ≤ c := hT.2.1
          have hcm : c ≤ 9223372036854775807 := by have := hT.2.2.1; unfold maxLen at this; exact this
          obtain ⟨gp, off, rfl⟩ := hT.some_ (by omega)
          have hne : gp ≠ g := hT.ne_ hM.tail.head (t := 173) (by decide)
          clear hT
          have h64 : 64 ≤ c := by omega
          have HB := Lib.hid (mixN_succ_last (hst cur) j X)
          have HBl : Hid (((X.drop (64 * j)).take 64).length = 64) := by show _ = _; have := hn.out; simp; omega
          have HD : Hid ((X.drop (64 * j)).drop 64 = X.drop (64 * (j + 1))) := by show _ = _; rw [List.drop_drop, Nat.mul_add]
          by_cases hck : c = 64
          · subst hck
            obtain rfl : n = 64 := by omega
            go_wp2_with (first | (first | (refine BigFrame.wpList_want (by rfl) fun K hK => ws_load1 hM rfl rfl (by (repeat (first | assumption | (with_reducible exact mZ) | apply mS)); first | done | fail) (by first | exact sh_at8 _ _ _ | exact sh_at9 _ _ _) (by kernel_rfl) (hK _ _ ?_); clear hK K) | fail) | (go_at_call 106; have hM0 := hM; clear hM; (first | (with_reducible refine (block_star (mixN (hst cur) j X) _ _ ((X.drop (64 * j)).take 64) ⟨gp, off, none⟩ 64 g HBl.out (by omega) (by omega) _ (hM0.take (x := cellsE g 173 _) (by (repeat (first | (with_reducible exact Take.head) | apply Take.tail)); first | done | fail)) (hM0.tail_first (by (repeat (first | assumption | (with_reducible exact mZ) | apply mS)); first | done | fail) (by omega)) hne).mono ?_) | fail); clear hM0; rintro _ w ⟨rfl, hM⟩) | (first | (have hM0 := hM; clear hM; refine BigFrame.wpList_want (by rfl) fun K hK => ws_store1 hM0 rfl rfl (by go_simp; rfl) (by first | rfl | assumption) (by (repeat (first | (with_reducible exact Take.head) | apply Take.tail)); first | done | fail) (by first | exact (by decide : 8 < 10) | exact (by decide : 9 < 10)) (by kernel_rfl) (by first | exact sh_set8 _ _ _ _ | exact sh_set9 _ _ _ _) (fun w hM => hK _ _ ?_); clear hM0 hK K) | fail))
            go_roundg (X.length / 64 - (j + 1))
            case measure => omega
            case rel =>
              have hM2 := (hM.take (x := tailE 5 1 (some ⟨gp, off, none⟩) 64 64 (bvs (X.drop (64 * j)))) (by (repeat (first | (with_reducible exact Take.head) | apply Take.tail)); first | done | fail)).tail_cut (k := 64) (by omega)
              simp only [Nat.mul_one, bvs_drop, if_true, Nat.sub_self] at hM2
              rw [HD.out] at hM2
              refine ⟨j + 1, 0, some ⟨gp, off, none⟩, 0, rfl, by omega, (by show _ = _; have := hn.out; omega), ?_⟩
              rw [HB.out]
              exact hM2
          · go_wp2_with (first | (first | (refine BigFrame.wpList_want (by rfl) fun K hK => ws_load1 hM rfl rfl (by (repeat (first | assumption | (with_reducible exact mZ) | apply mS)); first | done | fail) (by first | exact sh_at8 _ _ _ | exact sh_at9 _ _ _) (by kernel_rfl) (hK _ _ ?_); clear hK K) | fail) | (go_at_call 106; have hM0 := hM; clear hM; (first | (with_reducible refine (block_star (mixN (hst cur) j X) _ _ ((X.drop (64 * j)).take 64) ⟨gp, off, none⟩ c g HBl.out (by omega) (by omega) _ (hM0.take (x := cellsE g 173 _) (by (repeat (first | (with_reducible exact Take.head) | apply Take.tail)); first | done | fail)) (hM0.tail_first (by (repeat (first | assumption | (with_reducible exact mZ) | apply mS)); first | done | fail) (by omega)) hne).mono ?_) | fail); clear hM0; rintro _ w ⟨rfl, hM⟩) | (first | (have hM0 := hM; clear hM; refine BigFrame.wpList_want (by rfl) fun K hK => ws_store1 hM0 rfl rfl (by go_simp; rfl) (by first | rfl | assumption) (by (repeat (first | (with_reducible exact Take.head) | apply Take.tail)); first | done | fail) (by first | exact (by decide : 8 < 10) | exact (by decide : 9 < 10)) (by kernel_rfl) (by first | exact sh_set8 _ _ _ _ | exact sh_set9 _ _ _ _) (fun w hM => hK _ _ ?_); clear hM0 hK K) | fail))
            go_roundg (X.length / 64 - (j + 1))
            case measure => omega
            case rel =>
              have hM2 := (hM.take (x := tailE 5 1 (some ⟨gp, off, none⟩) n c (bvs (X.drop (64 * j)))) (by (repeat (first | (with_reducible exact Take.head) | apply Take.tail)); first | done | fail)).tail_cut (k := 64) hn64
              simp only [Nat.mul_one, bvs_drop, if_neg hck, Option.map_some, add_lit] at hM2
              rw [HD.out] at hM2
              refine ⟨j + 1, n - 64, some ⟨gp, off + 64, none⟩, c - 64, rfl, by omega, (by show _ = _; have := hn.out; omega), ?_⟩
              rw [HB.out]
              exact hM2
        · obtain rfl : j = X.length / 64 := by omega
          have hn64 : n < 64 := by have := hn.out; omega
          have e1 := hst_app cur d
          have e2 := rest_app cur d
          rw [← HX.out] at e1 e2
          have E1 := Lib.hid e1
          have E2 := Lib.hid e2
          clear e1 e2
          go_wp2_with (first | (first | (refine BigFrame.wpList_want (by rfl) fun K hK => ws_load1 hM rfl rfl (by (repeat (first | assumption | (with_reducible exact mZ) | apply mS)); first | done | fail) (by first | exact sh_at8 _ _ _ | exact sh_at9 _ _ _) (by kernel_rfl) (hK _ _ ?_); clear hK K) | fail))
          go_roundw
          case rel =>
            refine ⟨k + 1, A, n, c, by omega, by go_num, ?_⟩
            rw [HT.out, ← List.append_assoc, ← HC.out, E2.out]
            unfold shCells
            rw [E1.out, List.length_append, Int.natCast_add]
            exact hM
          case measure => simp [intOf]; omega
    · go_wp2
      go_ret
      obtain rfl : k = np := by omega
      rw [← HL.out, List.take_length] at hM
      exact ⟨_, _, _, rfl, hM⟩
theorem write_star {F : List SProp} (g : Nat) (all : List UInt8) (ps : List (List UInt8)) (As : Option Addr) (np cp : Nat) (hps : ∀ x ∈ ps, x.length ≤ 1000000000) (hnp : np ≤ 1000) (hall : all.length ≤ 1000000000000) (A : Option Addr) (n c : Nat) (w : World)
    (hM : Star (tailE 5 1 A n c (bvs (rest all)) :: cellsE g 173 (shCells all A n c) :: F) w) (hF : rowE 1 As np (svs ps) ∈ F) :
    Calls Try.prog 81 #[.pointer (some ⟨g, 0, none⟩), .slice As np cp] w fun r w' => ∃ A' n' c', r = .returned (.pointer (some ⟨g, 0, none⟩)) ∧ Star (tailE 5 1 A' n' c' (bvs (rest (all ++ cat ps))) :: cellsE g 173 (shCells (all ++ cat ps) A' n' c') :: F) w' :=
  write_star_b g all ps As np cp (by
    have h1 := cat_le 1000000000 ps hps
    have h2 := svs_row (hM.row (A := As) (n := np) (xs := svs ps) (by simp [hF]))
    rw [h2] at h1
    omega) hnp A n c w hM hF
end Go.Proofs.Ytlhedbjjlomniaa
