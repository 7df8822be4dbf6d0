/- Part 4 of the proof of FactExact: words, contracts of functions of the program (what a call answers), and what the answers say. -/
import Derived.Lib.ItoaLen
import Derived.Lib.Join
import Derived.Lib.JoinLaws
import Derived.ChangeArms
import Derived.DataElems
import Derived.DataReads
import Derived.SizedLaws
import Derived.ChangeSlices
import Derived.RowKit
import Derived.WideShapes
import Derived.ChangeShapes
import Derived.KernelRfl
import Derived.Test.YtaopajmpifenoaaDoorRows
import Derived.LaidMore
import Derived.Stop.LaidErr
import Derived.Lib.LaidTab
import Derived.MakeChecks
import Derived.LaidLaws
import Derived.Test.YtaopajmpifenoaaDoorVWords
import Derived.Test.YtaopajmpifenoaaDoorVLast
import Derived.Test.YtaopajmpifenoaaDoorVApart
import Derived.Test.YtaopajmpifenoaaDoorVArr
import Derived.Test.YtaopajmpifenoaaDoorVFoot
import Derived.Test.YtaopajmpifenoaaDoorVKept
import Derived.Test.YtaopajmpifenoaaDoorVShare
import Derived.Test.YtaopajmpifenoaaDoorVZeros
import Derived.Test.YtaopajmpifenoaaDoorVN
import Derived.Test.YtaopajmpifenoaaDoorVFootNe
import Derived.Test.YtaopajmpifenoaaDoorVAt
import Derived.Test.YtaopajmpifenoaaDoorVEqStruct
import Derived.Test.YtaopajmpifenoaaDoorVTab
import Derived.Test.YtaopajmpifenoaaDoorVFour
import Derived.Test.YtaopajmpifenoaaDoorVGuard
import Derived.Test.YtaopajmpifenoaaDoorVInv
import Derived.Test.YtaopajmpifenoaaDoorVInvWords
import Derived.Test.YtaopajmpifenoaaDoorVQPut
import Derived.Test.YtaopajmpifenoaaDoorVNEv
import Derived.Test.YtaopajmpifenoaaDoorVMore
import Derived.Test.YtaopajmpifenoaaDoorVRepsOne
import Derived.Test.YtaopajmpifenoaaDoorVSized
import Derived.Test.YtaopajmpifenoaaDoorCFactExact0
import Derived.Test.YtaopajmpifenoaaDoorCFactExact1
import Derived.Test.YtaopajmpifenoaaDoorCFactExact2
section
namespace Go.Proofs.YtaopajmpifenoaaDoor.P
open Go.RowKit Go.Proofs.YtaopajmpifenoaaDoorW.PrintWords Go.Proofs.YtaopajmpifenoaaDoorW.PrintLast Go.Proofs.YtaopajmpifenoaaDoorW.PrintMore
def bareS : List Int → List Int
  | [] => []
  | [c] => [c]
  | c :: d :: r => if c = 92 then d :: bareS r else c :: bareS (d :: r)
theorem bareS_cons {c : Int} (h : ¬ c = 92) (m : List Int) : bareS (c :: m) = c :: bareS m := by
  cases m with
  | nil => rfl
  | cons d r => simp only [bareS, if_neg h]
theorem bareS_pair (d : Int) (m : List Int) : bareS (92 :: d :: m) = d :: bareS m := by simp only [bareS, if_true]
theorem bare_esc : ∀ l : List Int, bareS (escS l) = l
  | [] => rfl
  | c :: l => by
    unfold escS
    split
    · rw [bareS_pair, bare_esc l]
    · rw [bareS_cons (fun h => ‹¬ (c = 34 ∨ c = 92)› (.inr h)), bare_esc l]
theorem bare_len : ∀ (n : Nat) (l : List Int), l.length ≤ n → (bareS l).length ≤ l.length
  | _, [], _ => by simp [bareS]
  | _, [c], _ => by simp [bareS]
  | 0, c :: d :: r, h => by simp at h
  | n + 1, c :: d :: r, h => by
    unfold bareS
    split
    · have := bare_len n r (by simp at h; omega)
      simp; omega
    · have := bare_len n (d :: r) (by simp at h ⊢; omega)
      simp at this ⊢; omega
theorem take_split (s : ByteArray) (N i : Nat) (hN : N ≤ s.size) (h : i < N) : ((bytesOf s).take N).drop i = bt s i :: ((bytesOf s).take N).drop (i + 1) := by
  have hl : i < ((bytesOf s).take N).length := by rw [List.length_take, len_codes]; omega
  rw [List.drop_eq_getElem_cons hl, List.getElem_take]
  obtain ⟨x, h1, h2⟩ := codes_split s i (by omega)
  rw [h2]
  have := List.drop_eq_getElem_cons (show i < (bytesOf s).length by rw [len_codes]; omega)
  rw [this] at h1
  injection h1 with h1 _
  rw [h1]
theorem take_end (s : ByteArray) (N i : Nat) (h : N ≤ i) : ((bytesOf s).take N).drop i = [] := by
  rw [List.drop_eq_nil_iff, List.length_take]; omega
theorem bare_l0 (s : ByteArray) (h0 : 1 ≤ s.size) (hs : s.size ≤ 1000000) : ∀ (d i : Nat) (x : List Int), s.size - 1 - i ≤ d → x.length ≤ i →
    Ev (fun k => val_bare.l0 k s x i) (strOfNums (x ++ bareS (((bytesOf s).take (s.size - 1)).drop i))) := by
  have hw : wrap64 ((s.size : Int) - 1) = ((s.size - 1 : Nat) : Int) := by unfold wrap64; omega
  intro d
  induction d with
  | zero =>
    intro i x hd hx
    refine evShift ?_
    simp only [val_bare.l0, hw]
    refine evNeg (by omega) (evSome ?_)
    rw [take_end s _ i (by omega)]; simp [bareS]
  | succ d ih =>
    intro i x hd hx
    refine evShift ?_
    simp only [val_bare.l0, hw]
    by_cases hlt : i < s.size - 1
    · rw [take_split s _ i (by omega) hlt]
      have w1 : wrap64 ((i : Int) + 1) = ((i + 1 : Nat) : Int) := wrap_succ (show i < s.size by omega) (by omega)
      have one : ∀ c : Int, (c = 92 → ((bytesOf s).take (s.size - 1)).drop (i + 1) = []) → Ev (fun k => val_bare.l0 k s (x ++ [c]) ((i + 1 : Nat) : Int)) (strOfNums (x ++ bareS (c :: ((bytesOf s).take (s.size - 1)).drop (i + 1)))) := by
        intro c hc
        have := ih (i + 1) (x ++ [c]) (by omega) (by simp; omega)
        by_cases h92 : c = 92
        · rw [hc h92] at this ⊢
          simpa [bareS] using this
        · rw [bareS_cons h92]
          simpa using this
      refine evPos (by omega) (evPos (by omega) (evPos (by omega) (evIf (fun e => ?_) (fun e => evPos (by omega) ?_))))
      · rw [w1]
        by_cases h2 : i + 1 < s.size - 1
        · refine evPos (by omega) (evPos (by omega) (evPos (by omega) (evPos (by omega) ?_)))
          rw [e, take_split s _ (i + 1) (by omega) h2, bareS_pair, wrap_succ (show i + 1 < s.size by omega) (by omega)]
          have := ih (i + 1 + 1) (x ++ [bt s ((i + 1 : Nat) : Int)]) (by omega) (by simp; omega)
          simpa using this
        · refine evNeg (by omega) (evPos (by omega) ?_)
          rw [e]
          exact one 92 (fun _ => take_end s _ _ (by omega))
      · rw [w1]
        exact one _ (fun h => absurd h e)
    · refine evNeg (by omega) (evSome ?_)
      rw [take_end s _ i (by omega)]; simp [bareS]
def innerL (s : ByteArray) : List Int := ((bytesOf s).take (s.size - 1)).drop 1
theorem val_bare_ev (s : ByteArray) (h0 : 1 ≤ s.size) (hs : s.size ≤ 1000000) : Ev (fun k => val_bare.f k s) (strOfNums (bareS (innerL s))) := by
  by_cases h1 : s.size = 1
  · have e : innerL s = [] := take_end s _ _ (by omega)
    rw [e]
    unfold val_bare.f
    refine evShift ?_
    simp only [val_bare.l0]
    exact evNeg (by rw [h1]; unfold wrap64; omega) (evSome rfl)
  · have := bare_l0 s h0 hs s.size 1 [] (by omega) (by simp)
    exact this
def zE : S44 := ⟨0, 0, ⟨#[]⟩⟩
def candS (s : ByteArray) : Option S44 :=
  if bt s 0 = 34 then some ⟨3, 0, strOfNums (bareS (innerL s))⟩
  else if bt s 0 = 45 ∨ digitI (bt s 0) = true then (match Lib.atoiAll s.data.toList with | .ok n => some ⟨1, n, ⟨#[]⟩⟩ | _ => none)
  else some ⟨2, 0, s⟩
def fitsS (v : S44) (s : ByteArray) : Bool := valS v.f0 v.f1 v.f2 && decide (textS v.f0 v.f1 v.f2 = s)
def parseS (s : ByteArray) : S44 × Int :=
  if s = ⟨#[]⟩ then (zE, 7) else match candS s with | some v => if fitsS v s then (v, 0) else (zE, 7) | none => (zE, 7)
def tupP (p : S44 × Int) : Int × Int × ByteArray × Int := (p.1.f0, p.1.f1, p.1.f2, p.2)
theorem parse_fin (v : S44) (s : ByteArray) (hv : v.f2.size ≤ maxLen) (g : Nat → Int × ByteArray → Option (Int × Int × ByteArray × Int)) :
    Ev (fun k => (val_Text.f k v.f0 v.f1 v.f2).bind fun b => (if b.2 = 0 then (if b.1.toList = s.toList then (some (v.f0, v.f1, v.f2, 0)) else (some (0, 0, (⟨#[]⟩ : ByteArray), 7))) else (some (0, 0, (⟨#[]⟩ : ByteArray), 7)))) (tupP (if fitsS v s then (v, 0) else (zE, 7))) := by
  refine Ev.bind (val_Text_ev v.f0 v.f1 v.f2 hv) ?_
  unfold fitsS
  cases h : valS v.f0 v.f1 v.f2 with
  | false => exact evNeg (show ¬ (1 : Int) = 0 by decide) (evSome rfl)
  | true =>
    refine evPos rfl ?_
    simp only [if_true, Bool.true_and]
    by_cases e : textS v.f0 v.f1 v.f2 = s
    · rw [decide_eq_true e]
      exact evPos (tl_inj.2 e) (evSome rfl)
    · rw [decide_eq_false e]
      exact evNeg (fun h => e (tl_inj.1 h)) (evSome rfl)
theorem val_Parse_ev (s : ByteArray) (hs : s.size ≤ 1000000) : Ev (fun k => val_Parse.f k s) (tupP (parseS s)) := by
  have z : (⟨#[]⟩ : ByteArray).size ≤ maxLen := by unfold maxLen; exact Nat.zero_le _
  unfold val_Parse.f parseS
  by_cases h0 : s = ⟨#[]⟩
  · refine evPos (tl_nil.2 h0) (evSome ?_)
    rw [if_pos h0]; rfl
  refine evNeg (fun h => h0 (tl_nil.1 h)) ?_
  rw [if_neg h0]
  have h1 : 1 ≤ s.size := by
    have : ¬ s.size = 0 := fun h => h0 (size_zero.1 h)
    omega
  refine evPos (by omega) ?_
  unfold candS
  refine evIf (fun e => ?_) (fun e => ?_)
  · rw [if_pos e]
    refine Ev.bind (val_bare_ev s h1 hs) ?_
    have hl : (strOfNums (bareS (innerL s))).size ≤ maxLen := by
      have h1 := bare_len _ (innerL s) (Nat.le_refl _)
      have h2 : (innerL s).length ≤ s.size := by unfold innerL; rw [List.length_drop, List.length_take, len_codes]; omega
      rw [nums_size]; unfold maxLen; omega
    exact parse_fin ⟨3, 0, strOfNums (bareS (innerL s))⟩ s hl (fun _ _ => none)
  · rw [if_neg e]
    have jf : Ev (fun k => val_Parse.j0 k s false 2 0 s) (tupP (if fitsS ⟨2, 0, s⟩ s then (⟨2, 0, s⟩, 0) else (zE, 7))) := by
      refine evShift ?_
      simp only [val_Parse.j0, Bool.false_eq_true, if_false]
      exact parse_fin ⟨2, 0, s⟩ s (by unfold maxLen; show s.size ≤ _; omega) (fun _ _ => none)
    have jt : Ev (fun k => val_Parse.j0 k s true 2 0 s) (tupP (match (match Lib.atoiAll s.data.toList with | .ok n => some (⟨1, n, ⟨#[]⟩⟩ : S44) | _ => none) with | some v => if fitsS v s then (v, 0) else (zE, 7) | none => (zE, 7))) := by
      refine evShift ?_
      simp only [val_Parse.j0, if_true, strconv_Atoi.f]
      rw [if_pos (by omega)]
      cases Lib.atoiAll s.data.toList with
      | ok n => exact evBind0 rfl (evPos rfl (parse_fin ⟨1, n, ⟨#[]⟩⟩ s z (fun _ _ => none)))
      | «syntax» => exact evBind0 rfl (evNeg (show ¬ ((some (0 : Int)).isNone = true) by decide) (evSome rfl))
      | range => exact evBind0 rfl (evNeg (show ¬ ((some (0 : Int)).isNone = true) by decide) (evSome rfl))
    by_cases e2 : bt s 0 = 45
    · rw [if_pos (.inl e2)]
      exact evPos e2 jt
    · refine evNeg e2 ?_
      simp only [val_digit_eq, Option.bind_some]
      cases hd : digitI (bt s 0) with
      | true => rw [if_pos (.inr rfl)]; exact jt
      | false => rw [if_neg (fun h => h.elim e2 (by decide))]; exact jf
theorem dig_nat {d : Nat} (h : d < 10) : (UInt8.ofNat (48 + d)).toNat = 48 + d := by rw [UInt8.toNat_ofNat']; omega
theorem dec_parse : ∀ (n u : Nat) (r : List UInt8), u ≤ n → u < 9223372036854775809 → Lib.parseUint10 0 (Lib.decDigits u ++ r) = Lib.parseUint10 u r
  | n, u, r, hn, hu => by
    rw [Lib.decDigits]
    by_cases h : u < 10
    · rw [dif_pos h]
      simp only [List.cons_append, List.nil_append, Lib.parseUint10, dig_nat h]
      rw [if_pos (by omega), if_neg (by omega), if_neg (by omega)]
      congr 1; omega
    · rw [dif_neg h]
      cases n with
      | zero => omega
      | succ n =>
        rw [List.append_assoc, dec_parse n (u / 10) _ (by omega) (by omega)]
        simp only [List.cons_append, List.nil_append, Lib.parseUint10, dig_nat (show u % 10 < 10 by omega)]
        rw [if_pos (by omega), if_neg (by omega), if_neg (by omega)]
        congr 1; omega
theorem dec_digits : ∀ (n u : Nat), u ≤ n → ∀ c ∈ Lib.decDigits u, 48 ≤ c.toNat ∧ c.toNat ≤ 57
  | n, u, hn, c, hc => by
    rw [Lib.decDigits] at hc
    by_cases h : u < 10
    · rw [dif_pos h] at hc
      rw [List.mem_singleton.1 hc, dig_nat h]; omega
    · rw [dif_neg h] at hc
      cases n with
      | zero => omega
      | succ n =>
        rcases List.mem_append.1 hc with hc | hc
        · exact dec_digits n (u / 10) (by omega) c hc
        · rw [List.mem_singleton.1 hc, dig_nat (show u % 10 < 10 by omega)]; omega
theorem dec_cons (u : Nat) : ∃ c r, Lib.decDigits u = c :: r ∧ 48 ≤ c.toNat ∧ c.toNat ≤ 57 := by
  cases h : Lib.decDigits u with
  | nil =>
    have := Lib.decDigits_length u
    rw [h] at this
    have := Lib.nDigits_pos u
    simp at *; omega
  | cons c r => exact ⟨c, r, rfl, dec_digits u u (Nat.le_refl _) c (by rw [h]; exact List.mem_cons_self ..)⟩
theorem dec_mag {u : Nat} (h : u < 9223372036854775809) : Lib.parseMag (Lib.decDigits u) = .ok u := by
  obtain ⟨c, r, e, _⟩ := dec_cons u
  have := dec_parse u u [] (Nat.le_refl _) h
  rw [List.append_nil] at this
  unfold Lib.parseMag
  rw [if_neg (by rw [e]; simp), this]
  rfl
theorem atoi_itoa {n : Int} (h : InB n) : Lib.atoiAll (Lib.itoa n) = .ok n := by
  rw [InB_iff] at h
  unfold Lib.itoa
  by_cases hn : n < 0
  · rw [if_pos hn]
    have hm := dec_mag (show n.natAbs < 9223372036854775809 by omega)
    have : (45 : UInt8).toNat = 45 := rfl
    simp only [Lib.atoiAll, this, or_true, if_true, hm, not_true, false_and, if_false, true_and]
    rw [if_neg (by omega)]
    congr 1; omega
  · rw [if_neg hn]
    have hm := dec_mag (show n.toNat < 9223372036854775809 by omega)
    obtain ⟨c, r, e, h1, h2⟩ := dec_cons n.toNat
    rw [e] at hm ⊢
    simp only [Lib.atoiAll]
    rw [if_neg (show ¬ (c.toNat = 43 ∨ c.toNat = 45) by omega), hm]
    simp only
    rw [if_neg (by omega), if_neg (by omega), if_neg (by omega)]
    congr 1; omega
theorem codes_mk (l : List UInt8) : bytesOf ⟨l.toArray⟩ = l.map fun b => ((b.toNat : Nat) : Int) := rfl
theorem bt_zero {s : ByteArray} {c : Int} {l : List Int} (h : bytesOf s = c :: l) : bt s 0 = c := by rw [bt_codes, h]; rfl
theorem itoa_codes (n : Int) : ∃ c l, bytesOf ⟨(Lib.itoa n).toArray⟩ = c :: l ∧ ((n < 0 ∧ c = 45) ∨ (0 ≤ n ∧ 48 ≤ c ∧ c ≤ 57)) ∧ ∀ d ∈ l, 48 ≤ d ∧ d ≤ 57 := by
  rw [codes_mk]
  unfold Lib.itoa
  by_cases hn : n < 0
  · rw [if_pos hn]
    refine ⟨45, (Lib.decDigits n.natAbs).map fun b => ((b.toNat : Nat) : Int), rfl, .inl ⟨hn, rfl⟩, fun d hd => ?_⟩
    obtain ⟨b, hb, rfl⟩ := List.mem_map.1 hd
    have := dec_digits _ n.natAbs (Nat.le_refl _) b hb
    omega
  · rw [if_neg hn]
    obtain ⟨c, r, e, h1, h2⟩ := dec_cons n.toNat
    rw [e]
    refine ⟨c.toNat, r.map fun b => ((b.toNat : Nat) : Int), rfl, .inr ⟨by omega, by omega, by omega⟩, fun d hd => ?_⟩
    obtain ⟨b, hb, rfl⟩ := List.mem_map.1 hd
    have := dec_digits _ n.toNat (Nat.le_refl _) b (by rw [e]; exact List.mem_cons_of_mem _ hb)
    omega
theorem sym_first {s : ByteArray} (h : wordS false s = true) : 1 ≤ s.size ∧ smallI (bt s 0) = true ∧ (bytesOf s).all innerI = true := by
  unfold wordS at h
  simp only [Bool.and_eq_true, decide_eq_true_eq, Bool.false_eq_true, if_false] at h
  exact ⟨h.1.1.1, h.1.2, h.2⟩
theorem inner_quote (s : ByteArray) : innerL (quoteS s) = escS (bytesOf s) := by
  have hb := quoteL_byte (byteL_codes s)
  unfold innerL quoteS
  rw [codes_of_nums hb, nums_size]
  unfold quoteL
  simp
theorem quote_ne (s : ByteArray) : ¬ quoteS s = ⟨#[]⟩ := by
  intro h
  have := congrArg ByteArray.size h
  unfold quoteS at this
  rw [nums_size] at this
  unfold quoteL at this
  simp at this
  exact absurd this (by show ¬ _ = 0; omega)
theorem cand_text {k n : Int} {s : ByteArray} (h : valS k n s = true) : ¬ textS k n s = ⟨#[]⟩ ∧ candS (textS k n s) = some ⟨k, n, s⟩ := by
  unfold textS
  by_cases h1 : k = 1
  · subst h1
    obtain ⟨hb, rfl⟩ := valS_int h
    rw [if_pos rfl]
    obtain ⟨c, l, e, hc, _⟩ := itoa_codes n
    refine ⟨fun h => (by rw [h] at e; cases e), ?_⟩
    unfold candS
    rw [bt_zero e, if_neg (by omega), if_pos, atoi_itoa hb]
    rcases hc with ⟨_, rfl⟩ | ⟨_, h1, h2⟩
    · exact .inl rfl
    · exact .inr (decide_eq_true ⟨h1, h2⟩)
  · rw [if_neg h1]
    by_cases h2 : k = 2
    · subst h2
      obtain ⟨rfl, hw⟩ := valS_sym h
      obtain ⟨hs, hf, _⟩ := sym_first hw
      rw [if_pos rfl]
      refine ⟨fun h => (by rw [h] at hs; exact absurd hs (by decide)), ?_⟩
      unfold smallI at hf
      rw [decide_eq_true_eq] at hf
      unfold candS
      rw [if_neg (by omega), if_neg]
      rintro (h | h)
      · omega
      · unfold digitI at h; rw [decide_eq_true_eq] at h; omega
    · rw [if_neg h2]
      obtain ⟨rfl, rfl, hp, _⟩ := valS_str h h1 h2
      refine ⟨quote_ne s, ?_⟩
      unfold candS
      have e : bytesOf (quoteS s) = 34 :: (escS (bytesOf s) ++ [34]) := codes_of_nums (quoteL_byte (byteL_codes s))
      rw [bt_zero e, if_pos rfl, inner_quote, bare_esc, nums_codes]
theorem parse_text {v : S44} (h : valS v.f0 v.f1 v.f2 = true) : parseS (textS v.f0 v.f1 v.f2) = (v, 0) := by
  obtain ⟨h1, h2⟩ := cand_text h
  unfold parseS
  rw [if_neg h1, h2]
  show (if fitsS v _ = true then (v, (0 : Int)) else (zE, 7)) = _
  unfold fitsS
  rw [h, decide_eq_true rfl]
  rfl
theorem parse_fits {s : ByteArray} : (∃ v, parseS s = (v, 0) ∧ valS v.f0 v.f1 v.f2 = true ∧ textS v.f0 v.f1 v.f2 = s) ∨ parseS s = (zE, 7) := by
  unfold parseS
  split
  · exact .inr rfl
  · split
    · split
      · rename_i v _ hf
        unfold fitsS at hf
        simp only [Bool.and_eq_true, decide_eq_true_eq] at hf
        exact .inl ⟨v, rfl, hf.1, hf.2⟩
      · exact .inr rfl
    · exact .inr rfl
theorem text_inj {v w : S44} (hv : valS v.f0 v.f1 v.f2 = true) (hw : valS w.f0 w.f1 w.f2 = true) (h : textS v.f0 v.f1 v.f2 = textS w.f0 w.f1 w.f2) : v = w := by
  have h1 := parse_text hv
  rw [h, parse_text hw] at h1
  exact (congrArg Prod.fst h1).symm
theorem valS_size {k n : Int} {s : ByteArray} (h : valS k n s = true) : s.size ≤ 60 := by
  by_cases h1 : k = 1
  · subst h1
    obtain ⟨_, rfl⟩ := valS_int h
    decide
  · by_cases h2 : k = 2
    · subst h2
      obtain ⟨_, hw⟩ := valS_sym h
      unfold wordS at hw
      simp only [Bool.and_eq_true, decide_eq_true_eq] at hw
      omega
    · exact (valS_str h h1 h2).2.2.2
theorem text_size {k n : Int} {s : ByteArray} (h : valS k n s = true) : (textS k n s).size ≤ 200 := by
  have hs := valS_size h
  unfold textS
  split
  · subst k
    obtain ⟨hb, _⟩ := valS_int h
    rw [InB_iff] at hb
    have := Lib.itoa_length_le n (by omega) (by omega)
    show (Lib.itoa n).toArray.size ≤ 200
    rw [List.size_toArray]; omega
  · split
    · omega
    · unfold quoteS quoteL
      rw [nums_size]
      have := escS_len (bytesOf s)
      rw [len_codes] at this
      simp; omega
end Go.Proofs.YtaopajmpifenoaaDoor.P
end
section
namespace Go.Proofs.YtaopajmpifenoaaDoor.P
open Go.RowKit Go.Proofs.YtaopajmpifenoaaDoorW.PrintWords Go.Proofs.YtaopajmpifenoaaDoorW.PrintLast Go.Proofs.YtaopajmpifenoaaDoorW.PrintMore
def idxW (s : ByteArray) : Nat → List ByteArray → Int
  | _, [] => -1
  | i, x :: l => if x = s then (i : Int) else idxW s (i + 1) l
theorem idxW_any (s : ByteArray) : ∀ (l : List ByteArray) (i : Nat), decide (idxW s i l ≥ 0) = l.any fun x => decide (x = s)
  | [], i => by simp [idxW]
  | x :: l, i => by
    by_cases e : x = s
    · simp [idxW, e]
    · simp only [idxW, if_neg e, List.any_cons, decide_eq_false e, Bool.false_or]
      exact idxW_any s l (i + 1)
theorem contains_ev (l : List ByteArray) (s : ByteArray) (hl : l.length ≤ 1000) : Ev (fun k => slices_Contains_string_string.f k l s) (l.any fun x => decide (x = s)) := by
  have h : ∀ i : Nat, i ≤ l.length → Ev (fun k => slices_Index_string_string.l0 k l s l.length i) (idxW s i (l.drop i)) := by
    refine back_ind l.length (fun k i => slices_Index_string_string.l0 k l s l.length i) _ ?_ ?_
    · refine evShift ?_
      simp only [slices_Index_string_string.l0]
      refine evNeg (by omega) (evSome ?_)
      rw [List.drop_length]; rfl
    · intro i hi ih
      refine evShift ?_
      simp only [slices_Index_string_string.l0]
      refine evPos (by omega) (evPos (by omega) (evPos (by omega) ?_))
      rw [rdOf_nth _ l i hi, List.drop_eq_getElem_cons hi, wrap_succ hi (by omega)]
      simp only [idxW]
      refine evIf (fun e => ?_) (fun e => ?_)
      · rw [if_pos (tl_inj.1 e).symm]; exact evSome rfl
      · rw [if_neg (fun h => e (tl_inj.2 h.symm))]; exact ih
  have h0 := h 0 (by omega)
  unfold slices_Contains_string_string.f slices_Index_string_string.f
  refine Ev.bind h0 (evSome ?_)
  rw [idxW_any, List.drop_zero]
def wordsL : List ByteArray := [⟨#[102, 97, 99, 116]⟩, ⟨#[114, 117, 108, 101]⟩, ⟨#[112, 97, 116, 116, 101, 114, 110]⟩, ⟨#[110, 111, 116]⟩, ⟨#[97, 110, 100]⟩, ⟨#[111, 114]⟩, ⟨#[98, 101, 102, 111, 114, 101]⟩, ⟨#[111, 110, 99, 101]⟩, ⟨#[97, 108, 119, 97, 121, 115]⟩, ⟨#[115, 105, 110, 99, 101]⟩, ⟨#[100, 114, 111, 112]⟩]
def nameS (s : ByteArray) : Bool := wordS false s && !(wordsL.any fun x => decide (x = s))
theorem fact_Name_ev (s : ByteArray) (hs : s.size ≤ maxLen) : Ev (fun k => fact_Name.f k s) (nameS s) := by
  unfold fact_Name.f nameS
  have hv : valS 2 0 s = wordS false s := by
    unfold valS
    rw [if_neg (by decide), if_pos rfl]
    rfl
  have hc := val_Check_ev 2 0 s hs
  rw [hv] at hc
  refine Ev.bind hc ?_
  cases wordS false s with
  | false => exact evNeg (by decide) (evSome rfl)
  | true =>
    refine evPos rfl (Ev.bind (a := wordsL.any fun x => decide (x = s)) ?_ (evSome rfl))
    unfold fact_word.f
    exact Ev.bind (contains_ev wordsL s (by decide)) (evSome rfl)
theorem rdA_nth (l : List S44) (i : Nat) (h : i < l.length) : rd_T44 l i = l[i] := by simp [rd_T44, List.getD_eq_getElem?_getD, h]
theorem rdF_nth (l : List S24) (i : Nat) (h : i < l.length) : rd_T24 l i = l[i] := by simp [rd_T24, List.getD_eq_getElem?_getD, h]
def vS2 (v : S44) : Bool := valS v.f0 v.f1 v.f2
def factS (f : S24) : Bool := nameS f.f0 && (decide (f.f1.length ≤ 5) && f.f1.all vS2)
def FactOk (f : S24) : Prop := f.f0.size ≤ 200 ∧ f.f1.length ≤ 20 ∧ ∀ v ∈ f.f1, v.f2.size ≤ 200
def badI : Nat → List S44 → Int
  | _, [] => -1
  | i, v :: l => if vS2 v = true then badI (i + 1) l else (i : Int)
theorem badI_all : ∀ (l : List S44) (i : Nat), decide (badI i l ≥ 0) = !l.all vS2
  | [], i => by simp [badI]
  | v :: l, i => by
    by_cases e : vS2 v = true
    · simp only [badI, if_pos e, List.all_cons, e, Bool.true_and]
      exact badI_all l (i + 1)
    · simp [badI, e]
theorem bad_ev (l : List S44) (hl : l.length ≤ 1000) (ho : ∀ v ∈ l, v.f2.size ≤ 200) : Ev (fun k => api_Value_46.f k l) (!l.all vS2) := by
  have h : ∀ i : Nat, i ≤ l.length → Ev (fun k => api_Value_68.l0 k l l.length i) (badI i (l.drop i)) := by
    refine back_ind l.length (fun k i => api_Value_68.l0 k l l.length i) _ ?_ ?_
    · refine evShift ?_
      simp only [api_Value_68.l0]
      refine evNeg (by omega) (evSome ?_)
      rw [List.drop_length]; rfl
    · intro i hi ih
      have hsz : (l[i]).f2.size ≤ maxLen := Nat.le_trans (ho _ (List.getElem_mem hi)) (by decide)
      refine evShift ?_
      simp only [api_Value_68.l0, rdA_nth l i hi]
      refine evPos (by omega) (evPos (by omega) (evPos (by omega) ?_))
      rw [List.drop_eq_getElem_cons hi, wrap_succ hi (by omega)]
      simp only [badI]
      refine Ev.bind (a := !vS2 l[i]) ?_ ?_
      · unfold fact_Check_1.f
        refine Ev.bind (val_Check_ev _ _ _ hsz) (evSome ?_)
        unfold vS2
        cases valS (l[i]).f0 (l[i]).f1 (l[i]).f2 <;> rfl
      · cases e : vS2 l[i] with
        | true => exact evNeg (by decide) ih
        | false => exact evPos rfl (evSome rfl)
  have h0 := h 0 (by omega)
  unfold api_Value_46.f api_Value_68.f
  refine Ev.bind h0 (evSome ?_)
  rw [badI_all, List.drop_zero]
theorem fact_Check_ev (f : S24) (hf : FactOk f) : Ev (fun k => fact_Check.f k f.f0 f.f1) (if factS f then 0 else 1) := by
  obtain ⟨h1, h2, h3⟩ := hf
  unfold fact_Check.f factS
  refine Ev.bind (fact_Name_ev f.f0 (Nat.le_trans h1 (by decide))) ?_
  cases nameS f.f0 with
  | false => exact evNeg (by decide) (evSome rfl)
  | true =>
    refine evPos rfl (evIf (fun h => evSome ?_) (fun h => ?_))
    · rw [decide_eq_false (show ¬ f.f1.length ≤ 5 by omega)]; rfl
    · rw [decide_eq_true (show f.f1.length ≤ 5 by omega)]
      refine Ev.bind (bad_ev f.f1 (by omega) h3) ?_
      cases f.f1.all vS2 with
      | true => exact evNeg (by decide) (evSome rfl)
      | false => exact evPos rfl (evSome rfl)
def lexL {α : Type} (c : α → α → Int) : List α → List α → Int
  | [], [] => 0
  | [], _ :: _ => -1
  | _ :: _, [] => 1
  | x :: a, y :: b => lexI (c x y) (lexL c a b)
def cmpF (f g : S24) : Int := lexI (cmpB f.f0 g.f0) (lexI (cmpI f.f1.length g.f1.length) (lexL cmpV f.f1 g.f1))
theorem args_ev (a b : List S44) (ha : a.length ≤ 1000) : Ev (fun k => api_Value_42.f k a b) (lexL cmpV a b) := by
  have h : ∀ (d i : Nat), i + d = a.length → i ≤ b.length → Ev (fun k => api_Value_42.l0 k a b a a.length i) (lexL cmpV (a.drop i) (b.drop i)) := by
    intro d
    induction d with
    | zero =>
      intro i hi hb
      refine evShift ?_
      simp only [api_Value_42.l0]
      refine evNeg (by omega) ?_
      rw [List.drop_of_length_le (l := a) (by omega)]
      refine evIf (fun h => evSome ?_) (fun h => evSome ?_)
      · rw [List.drop_eq_getElem_cons (l := b) (show i < b.length by omega)]; rfl
      · rw [List.drop_of_length_le (l := b) (by omega)]; rfl
    | succ d ih =>
      intro i hi hb
      have hlt : i < a.length := by omega
      refine evShift ?_
      simp only [api_Value_42.l0, rdA_nth a i hlt]
      refine evPos (by omega) (evPos (by omega) (evPos (by omega) ?_))
      rw [List.drop_eq_getElem_cons hlt]
      by_cases h2 : i < b.length
      · refine evNeg (by omega) (evPos (by omega) ?_)
        rw [List.drop_eq_getElem_cons h2, rdA_nth b i h2, wrap_succ hlt (by omega)]
        refine Ev.bind (val_Compare_ev a[i] b[i]) ?_
        simp only [lexL, lexI]
        refine evIf (fun e => ?_) (fun e => evSome (by rw [if_neg e]))
        rw [if_pos e]
        exact ih (i + 1) (by omega) (by omega)
      · refine evPos (by omega) (evSome ?_)
        rw [List.drop_of_length_le (l := b) (by omega)]; rfl
  exact h a.length 0 (by omega) (by omega)
theorem fact_Compare_ev (f g : S24) (hf : f.f1.length ≤ 1000) : Ev (fun k => fact_Compare.f k f.f0 f.f1 g.f0 g.f1) (cmpF f g) := by
  unfold fact_Compare.f
  simp only [strings_Compare.f, cmp_Compare_eq, Option.bind_some]
  exact Ev.bind (args_ev f.f1 g.f1 hf) (Ev.bind (cmp_Or_ev _ _ _) (evSome rfl))
theorem facts_ev (a b : List S24) (ha : a.length ≤ 1000) (ho : ∀ f ∈ a, f.f1.length ≤ 1000) : Ev (fun k => fact_Lists.f k a b) (lexL cmpF a b) := by
  have h : ∀ (d i : Nat), i + d = a.length → i ≤ b.length → Ev (fun k => api_Fact.l0 k a b a a.length i) (lexL cmpF (a.drop i) (b.drop i)) := by
    intro d
    induction d with
    | zero =>
      intro i hi hb
      refine evShift ?_
      simp only [api_Fact.l0]
      refine evNeg (by omega) ?_
      rw [List.drop_of_length_le (l := a) (by omega)]
      refine evIf (fun h => evSome ?_) (fun h => evSome ?_)
      · rw [List.drop_eq_getElem_cons (l := b) (show i < b.length by omega)]; rfl
      · rw [List.drop_of_length_le (l := b) (by omega)]; rfl
    | succ d ih =>
      intro i hi hb
      have hlt : i < a.length := by omega
      refine evShift ?_
      simp only [api_Fact.l0, rdF_nth a i hlt]
      refine evPos (by omega) (evPos (by omega) (evPos (by omega) ?_))
      rw [List.drop_eq_getElem_cons hlt]
      by_cases h2 : i < b.length
      · refine evNeg (by omega) (evPos (by omega) ?_)
        rw [List.drop_eq_getElem_cons h2, rdF_nth b i h2, wrap_succ hlt (by omega)]
        refine Ev.bind (fact_Compare_ev a[i] b[i] (ho _ (List.getElem_mem hlt))) ?_
        simp only [lexL, lexI]
        refine evIf (fun e => ?_) (fun e => evSome (by rw [if_neg e]))
        rw [if_pos e]
        exact ih (i + 1) (by omega) (by omega)
      · refine evPos (by omega) (evSome ?_)
        rw [List.drop_of_length_le (l := b) (by omega)]; rfl
  unfold fact_Lists.f
  exact Ev.bind (h a.length 0 (by omega) (by omega)) (evSome rfl)
def mkB (l : List UInt8) : ByteArray := ⟨l.toArray⟩
theorem mkB_list (b : ByteArray) : mkB b.data.toList = b := by
  apply ByteArray.ext
  apply Array.toList_inj.1
  rfl
theorem mkB_data (l : List UInt8) : (mkB l).data.toList = l := rfl
theorem mkB_append (l m : List UInt8) : mkB l ++ mkB m = mkB (l ++ m) := by
  apply ByteArray.ext
  apply Array.toList_inj.1
  rw [ByteArray.data_append, Array.toList_append]
  rfl
theorem mkB_size (l : List UInt8) : (mkB l).size = l.length := by show l.toArray.size = _; rw [List.size_toArray]
def textV (v : S44) : ByteArray := textS v.f0 v.f1 v.f2
def textU (v : S44) : List UInt8 := (textV v).data.toList
def factU (f : S24) : List UInt8 := f.f0.data.toList ++ (if f.f1 = [] then [] else 40 :: (Lib.join (f.f1.map textU) [44, 32] ++ [41]))
theorem textU_len {v : S44} (h : vS2 v = true) : (textU v).length ≤ 200 := by
  have := text_size h
  unfold textU textV
  rw [Array.length_toList]
  exact this
theorem tail_len : ∀ l : List S44, l.all vS2 = true → (Lib.joinTail [44, 32] (l.map textU)).length ≤ 202 * l.length
  | [], _ => by simp [Lib.joinTail]
  | v :: l, h => by
    rw [List.all_cons, Bool.and_eq_true] at h
    have h1 := textU_len h.1
    have h2 := tail_len l h.2
    unfold Lib.joinTail at h2 ⊢
    simp only [List.map_cons, List.flatten_cons, List.length_append, List.length_cons, List.length_nil] at h2 ⊢
    omega
theorem join_len (l : List S44) (h : l.all vS2 = true) : (Lib.join (l.map textU) [44, 32]).length ≤ 202 * l.length := by
  cases l with
  | nil => simp [Lib.join_nil]
  | cons v l =>
    rw [List.all_cons, Bool.and_eq_true] at h
    have h1 := textU_len h.1
    have h2 := tail_len l h.2
    rw [List.map_cons, Lib.join_cons, List.length_append, List.length_cons]
    omega
theorem text_l0 (f : S24) (hf : FactOk f) (hs : factS f = true) : ∀ (d i : Nat) (x : List ByteArray), i + d = f.f1.length → x = (f.f1.take i).map textV →
    Ev (fun k => fact_Text.l0 k x f.f1 f.f1.length i f.f0 f.f1) (mkB (factU f), 0) := by
  obtain ⟨h1, h2, h3⟩ := hf
  have hall : f.f1.all vS2 = true := by
    unfold factS at hs
    simp only [Bool.and_eq_true] at hs
    exact hs.2.2
  intro d
  induction d with
  | zero =>
    intro i x hi hx
    rw [List.take_of_length_le (by omega)] at hx
    have hxl : x.length = f.f1.length := by rw [hx, List.length_map]
    refine evShift ?_
    simp only [fact_Text.l0]
    refine evNeg (by omega) (evIf (fun h => evSome ?_) (fun h => ?_))
    · unfold factU
      rw [if_pos (List.length_eq_zero_iff.1 (by omega)), List.append_nil, mkB_list]
    · have hne : ¬ f.f1 = [] := fun e => h (by rw [hxl, e]; rfl)
      have hj := join_len f.f1 hall
      have e1 : x.map (fun b => b.data.toList) = f.f1.map textU := by rw [hx, List.map_map]; rfl
      refine evPos (by omega) ?_
      simp only [strings_Join.f]
      rw [e1, if_pos ⟨by omega, by omega⟩]
      have q1 : (⟨#[40]⟩ : ByteArray) = mkB [40] := rfl
      have q2 : (⟨#[41]⟩ : ByteArray) = mkB [41] := rfl
      have q3 : (⟨(Lib.join (f.f1.map textU) [44, 32]).toArray⟩ : ByteArray) = mkB (Lib.join (f.f1.map textU) [44, 32]) := rfl
      have hn : f.f0.data.toList.length = f.f0.size := by rw [Array.length_toList]; rfl
      simp only [Option.bind_some]
      rw [q1, q2, q3, ← mkB_list f.f0]
      simp only [mkB_append, mkB_size, List.length_append, List.length_singleton, hn, mkB_data]
      refine evPos (by omega) (evPos (by omega) (evSome ?_))
      unfold factU
      rw [if_neg hne]
      simp
  | succ d ih =>
    intro i x hi hx
    have hlt : i < f.f1.length := by omega
    have hv : vS2 f.f1[i] = true := List.all_eq_true.1 hall _ (List.getElem_mem hlt)
    have ht := val_Text_ev (f.f1[i]).f0 (f.f1[i]).f1 (f.f1[i]).f2 (Nat.le_trans (h3 _ (List.getElem_mem hlt)) (by decide))
    have hv' : valS (f.f1[i]).f0 (f.f1[i]).f1 (f.f1[i]).f2 = true := hv
    rw [hv'] at ht
    have hxl : x.length = i := by rw [hx, List.length_map, List.length_take]; omega
    refine evShift ?_
    simp only [fact_Text.l0, rdA_nth f.f1 i hlt]
    refine evPos (by omega) (evPos (by omega) (evPos (by omega) (Ev.bind ht (evPos (by omega) ?_))))
    rw [wrap_succ hlt (by omega)]
    refine ih (i + 1) _ (by omega) ?_
    rw [hx, List.take_succ_eq_append_getElem hlt, List.map_append]
    rfl
theorem fact_Text_ev (f : S24) (hf : FactOk f) : Ev (fun k => fact_Text.f k f.f0 f.f1) (if factS f then (mkB (factU f), 0) else (⟨#[]⟩, 1)) := by
  unfold fact_Text.f
  refine Ev.bind (fact_Check_ev f hf) ?_
  cases h : factS f with
  | false => exact evNeg (by decide) (evSome rfl)
  | true =>
    refine evPos rfl ?_
    exact text_l0 f hf h f.f1.length 0 [] (by omega) rfl
end Go.Proofs.YtaopajmpifenoaaDoor.P
end
section
namespace Go.Proofs.YtaopajmpifenoaaDoor.P
open Go.RowKit Go.Proofs.YtaopajmpifenoaaDoorW.PrintWords Go.Proofs.YtaopajmpifenoaaDoorW.PrintLast Go.Proofs.YtaopajmpifenoaaDoorW.PrintMore
attribute [local go_sem] max2_int min2_int max_two min_two max_three min_three max_four min_four
set_option linter.unusedVariables false
set_option linter.unusedSimpArgs false
mutual
def constableref01_Number.j0 : Nat → ByteArray → Bool → Option (Int × Bool)
  | 0, _, _ => none
  | k + 1, x0, x4 => if x4 = true then (if 1 ≤ (x0.size : Int) then (constableref01_Number.j1 k (x0.extract 1 x0.size) x4) else (none)) else (constableref01_Number.j1 k x0 x4)
def constableref01_Number.j1 : Nat → ByteArray → Bool → Option (Int × Bool)
  | 0, _, _ => none
  | k + 1, x0, x4 => if (x0.size : Int) = 0 then (some (0, false)) else (constableref01_Number.l0 k x0 x4 0 false 0)
def constableref01_Number.l0 : Nat → ByteArray → Bool → Int → Bool → Int → Option (Int × Bool)
  | 0, _, _, _, _, _ => none
  | k + 1, x0, x4, x5, x6, x7 => if x7 < (x0.size : Int) then (if 0 ≤ x7 then ((constableref01_Digit.f (bt x0 x7)).bind fun t353 => (if t353 = true then (if x6 = true then (constableref01_Number.l0 k x0 x4 x5 true (wrap64 (x7 + 1))) else (if (x5 > ((4611686018427387904 - (((bt x0 x7) - 48) % 256)) / 10)) then (constableref01_Number.l0 k x0 x4 x5 (decide (x5 > ((4611686018427387904 - (((bt x0 x7) - 48) % 256)) / 10))) (wrap64 (x7 + 1))) else (constableref01_Number.l0 k x0 x4 (wrap64 ((wrap64 (10 * x5)) + (((bt x0 x7) - 48) % 256))) (decide (x5 > ((4611686018427387904 - (((bt x0 x7) - 48) % 256)) / 10))) (wrap64 (x7 + 1))))) else (some (0, false)))) else (none)) else (if x6 = true then (some (0, false)) else (if x4 = true then (some (wrap64 (-x5), true)) else (some (x5, true))))
end
def constableref01_Number.f (k : Nat) (a0 : ByteArray) : Option (Int × Bool) := if (a0.size : Int) > 0 then (if 0 < (a0.size : Int) then (constableref01_Number.j0 k a0 ((bt a0 0) == 45)) else (none)) else (constableref01_Number.j0 k a0 false)
theorem constableref01_Number.mono_l : ∀ k, (∀ y0 y1, LeO (constableref01_Number.j0 k y0 y1) (constableref01_Number.j0 (k + 1) y0 y1)) ∧ (∀ y0 y1, LeO (constableref01_Number.j1 k y0 y1) (constableref01_Number.j1 (k + 1) y0 y1)) ∧ (∀ y0 y1 y2 y3 y4, LeO (constableref01_Number.l0 k y0 y1 y2 y3 y4) (constableref01_Number.l0 (k + 1) y0 y1 y2 y3 y4))
  | 0 => ⟨fun _ _ r h => by simp [constableref01_Number.j0] at h, fun _ _ r h => by simp [constableref01_Number.j1] at h, fun _ _ _ _ _ r h => by simp [constableref01_Number.l0] at h⟩
  | k + 1 => by
    obtain ⟨ih0, ih1, ih2⟩ := constableref01_Number.mono_l k
    refine ⟨?_, ?_, ?_⟩
    · intro y0 y1
      unfold constableref01_Number.j0
      repeat' first
      | (with_reducible exact ih0 _ _)
      | (with_reducible exact ih1 _ _)
      | (with_reducible exact ih2 _ _ _ _ _)
      | (with_reducible exact LeO.refl _)
      | (with_reducible exact LeO.none _)
      | (with_reducible refine LeO.ite ?_ ?_)
      | (with_reducible refine LeO.bind ?_ (fun _ => ?_))
      | exact ih0 _ _
      | exact ih1 _ _
      | exact ih2 _ _ _ _ _
      | exact LeO.none _
      | refine LeO.ite ?_ ?_
      | refine LeO.bind ?_ (fun _ => ?_)
    · intro y0 y1
      unfold constableref01_Number.j1
      repeat' first
      | (with_reducible exact ih0 _ _)
      | (with_reducible exact ih1 _ _)
      | (with_reducible exact ih2 _ _ _ _ _)
      | (with_reducible exact LeO.refl _)
      | (with_reducible exact LeO.none _)
      | (with_reducible refine LeO.ite ?_ ?_)
      | (with_reducible refine LeO.bind ?_ (fun _ => ?_))
      | exact ih0 _ _
      | exact ih1 _ _
      | exact ih2 _ _ _ _ _
      | exact LeO.none _
      | refine LeO.ite ?_ ?_
      | refine LeO.bind ?_ (fun _ => ?_)
    · intro y0 y1 y2 y3 y4
      unfold constableref01_Number.l0
      repeat' first
      | (with_reducible exact ih0 _ _)
      | (with_reducible exact ih1 _ _)
      | (with_reducible exact ih2 _ _ _ _ _)
      | (with_reducible exact LeO.refl _)
      | (with_reducible exact LeO.none _)
      | (with_reducible refine LeO.ite ?_ ?_)
      | (with_reducible refine LeO.bind ?_ (fun _ => ?_))
      | exact ih0 _ _
      | exact ih1 _ _
      | exact ih2 _ _ _ _ _
      | exact LeO.none _
      | refine LeO.ite ?_ ?_
      | refine LeO.bind ?_ (fun _ => ?_)
theorem constableref01_Number.mono : ∀ a0 k, LeO (constableref01_Number.f k a0) (constableref01_Number.f (k + 1) a0) := by
  intro a0 k
  obtain ⟨ih0, ih1, ih2⟩ := constableref01_Number.mono_l k
  unfold constableref01_Number.f
  repeat' first
      | (with_reducible exact ih0 _ _)
      | (with_reducible exact ih1 _ _)
      | (with_reducible exact ih2 _ _ _ _ _)
      | (with_reducible exact LeO.refl _)
      | (with_reducible exact LeO.none _)
      | (with_reducible refine LeO.ite ?_ ?_)
      | (with_reducible refine LeO.bind ?_ (fun _ => ?_))
      | exact ih0 _ _
      | exact ih1 _ _
      | exact ih2 _ _ _ _ _
      | exact LeO.none _
      | refine LeO.ite ?_ ?_
      | refine LeO.bind ?_ (fun _ => ?_)
set_option maxHeartbeats 8000000 in
set_option maxRecDepth 100000 in
theorem constableref01_Number.calls (k : Nat) (a0 : ByteArray) (r1 : Int) (r2 : Bool) (w : World) (h : constableref01_Number.f k a0 = some (r1, r2)) :
    Calls Tryd.prog 53 #[.string a0] w fun e w' => e = .returned (.tuple #[.int .i64 r1, .bool r2]) ∧ Drawn0 w w' := by
  have H : (if (a0.size : Int) > 0 then (if 0 < (a0.size : Int) then (constableref01_Number.j0 k a0 ((bt a0 0) == 45)) else (none)) else (constableref01_Number.j0 k a0 false)) = some (r1, r2) := h
  clear h
  have HC2 := Aside0.mk H
  clear H
  go_enter Tryd.func53, Tryd.ntmps53
  go_upto_region 1 with (fail)
  go_cut [4] (fun v4 wc => ∃ (kq : Nat) (x4_1 : Bool), v4 = .bool x4_1 ∧ Aside0 (constableref01_Number.j0 kq a0 x4_1 = some (r1, r2)) ∧ Aside0 (kq ≤ k) ∧ Drawn0 w wc)
  case first =>
    have H := HC2.out
    clear HC2
    by_cases c3 : (a0.size : Int) > 0
    · rw [if_pos c3] at H
      have c3b0 : decide (0 < (a0.size : Int)) = true := decide_eq_true c3
      have c3b1 : decide (0 < a0.size) = true := decide_eq_true (by omega)
      clear c3
      (first | rw [c3b0] | (simp only [i64_w, i32_w]; rw [c3b0]) | skip)
      by_cases c4 : 0 < (a0.size : Int)
      · rw [if_pos c4] at H
        have c4b0 : decide (0 < (a0.size : Int)) = true := decide_eq_true c4
        have c4b1 : decide (0 < a0.size) = true := decide_eq_true (by omega)
        clear c4
        have H' := Aside0.mk H
        clear H
        have p5 : 0 ≤ (0 : Int) := (by omega)
        have q5 : 0 < a0.size := (by have : (0 : Int) < (a0.size : Int) := dt_; omega)
        have hx5 : ∀ h : 0 < a0.size, ((a0[0]'h).toNat : Int) = bt a0 0 := bt_at a0 0
        clear p5
        have qi5 : (0 < (a0.size : Int)) = True := eq_true dt_
        replace q5 := eq_true q5
        go_wp2
        go_meet
        case rel => exact ⟨_, (((bt a0 0) == 45)), ra_, H', ⟨by first | omega | exact Nat.le_refl _⟩, dz_⟩
      · rw [if_neg c4] at H
        exact absurd H (by simp)
    · rw [if_neg c3] at H
      have c3b0 : decide (0 < (a0.size : Int)) = false := decide_eq_false c3
      have c3b1 : decide (0 < a0.size) = false := decide_eq_false (by omega)
      clear c3
      (first | rw [c3b0] | (simp only [i64_w, i32_w]; rw [c3b0]) | skip)
      have H' := Aside0.mk H
      clear H
      go_wp2
      go_meet
      case rel => exact ⟨_, (false), ra_, H', ⟨by first | omega | exact Nat.le_refl _⟩, dz_⟩
  case rest =>
    clear HC2
    try clear p2
    try clear c3
    try clear c3b0
    try clear c3b1
    try clear c4
    try clear c4b0
    try clear c4b1
    try clear c5
    try clear p5
    try clear q5
    try clear hx5
    try clear qi5
    try clear p5
    try clear q5
    obtain ⟨kq, x4_1, rfl, HA, HJ1, ⟨mc1, rfl⟩⟩ := hcut
    cases kq with
    | zero => exact absurd HA.out (by simp [constableref01_Number.j0])
    | succ kj1 =>
      have H := HA.out
      clear HA
      simp only [constableref01_Number.j0] at H
      have HC6 := Aside0.mk H
      clear H
      go_upto_if 17 with (fail)
      go_cut [0] (fun v0 wc => ∃ (kq : Nat) (x0_5 : ByteArray), v0 = .string x0_5 ∧ Aside0 (constableref01_Number.j1 kq x0_5 x4_1 = some (r1, r2)) ∧ Aside0 (kq ≤ kj1) ∧ Drawn0 w wc)
      case first =>
        have H := HC6.out
        clear HC6
        by_cases c7 : x4_1 = true
        · subst c7
          have H1 : (if 1 ≤ (a0.size : Int) then (constableref01_Number.j1 kj1 (a0.extract 1 a0.size) true) else (none)) = some (r1, r2) := by rw [if_pos rfl] at H; exact H
          clear H
          have H := H1
          clear H1
          by_cases c8 : 1 ≤ (a0.size : Int)
          · rw [if_pos c8] at H
            have c8b0 := eq_true c8
            have c8b1 : decide (1 ≤ (a0.size : Int)) = true := decide_eq_true c8
            clear c8
            have H' := Aside0.mk H
            clear H
            go_wp2
            go_meet
            case rel => exact ⟨_, (a0.extract 1 a0.size), ra_, H', ⟨by have := HJ1.out; first | omega | exact Nat.le_refl _⟩, dz_⟩
          · rw [if_neg c8] at H
            exact absurd H (by simp)
        · replace c7 := Bool.eq_false_iff.mpr c7
          subst c7
          have H1 : (constableref01_Number.j1 kj1 a0 false) = some (r1, r2) := by rw [if_neg (show ¬ (false = true) by decide)] at H; exact H
          clear H
          have H := H1
          clear H1
          have H' := Aside0.mk H
          clear H
          go_wp2
          go_meet
          case rel => exact ⟨_, (a0), ra_, H', ⟨by have := HJ1.out; first | omega | exact Nat.le_refl _⟩, dz_⟩
      case rest =>
        clear HC6
        try clear c1
        try clear p2
        try clear c3
        try clear c3b0
        try clear c3b1
        try clear c4
        try clear c4b0
        try clear c4b1
        try clear c5
        try clear p5
        try clear q5
        try clear hx5
        try clear qi5
        try clear c7
        try clear c8
        try clear c8b0
        try clear c8b1
        try clear p2
        try clear p5
        try clear q5
        obtain ⟨kq, x0_5, rfl, HA, HJ5, ⟨mc5, rfl⟩⟩ := hcut
        cases kq with
        | zero => exact absurd HA.out (by simp [constableref01_Number.j1])
        | succ kj5 =>
          have H := HA.out
          clear HA
          simp only [constableref01_Number.j1] at H
          by_cases c9 : (x0_5.size : Int) = 0
          · rw [if_pos c9] at H
            obtain ⟨c9b0, c9b1⟩ := eqB_ c9
            clear c9
            simp only [Option.some.injEq, Prod.mk.injEq] at H
            obtain ⟨rfl, rfl⟩ := H
            go_wp2
            go_ret2
            exact rz_
          · rw [if_neg c9] at H
            obtain ⟨c9b0, c9b1⟩ := neB_ c9
            have H' := Aside0.mk H
            clear H
            go_wp2
            go_loopg [5, 6, 7] kj5 (fun kq v5 v6 v7 w' => ∃ (x5_3 : Int) (x6_3 : Bool) (x7_3 : Int), v5 = .int .i64 x5_3 ∧ v6 = .bool x6_3 ∧ v7 = .int .i64 x7_3 ∧ Aside0 (constableref01_Number.l0 kq x0_5 x4_1 x5_3 x6_3 x7_3 = some (r1, r2)) ∧ Aside0 (kq ≤ kj5) ∧ Drawn0 w w')
            case atStart => exact ⟨(0), (false), (0), ra_, ra_, ra_, H', ⟨Nat.le_refl _⟩, dz_⟩
            case round =>
              clear H'
              try clear c1
              try clear p2
              try clear c3
              try clear c3b0
              try clear c3b1
              try clear c4
              try clear c4b0
              try clear c4b1
              try clear c5
              try clear p5
              try clear q5
              try clear hx5
              try clear qi5
              try clear c7
              try clear c8
              try clear c8b0
              try clear c8b1
              try clear c9
              try clear c9b0
              try clear c9b1
              try clear p2
              try clear p5
              try clear q5
              obtain ⟨x5_3, x6_3, x7_3, rfl, rfl, rfl, HA, HK3, ⟨m3, rfl⟩⟩ := hrel
              cases gk with
              | zero => exact absurd HA.out (by simp [constableref01_Number.l0])
              | succ k3 =>
                have H := HA.out
                clear HA
                simp only [constableref01_Number.l0] at H
                by_cases c10 : x7_3 < (x0_5.size : Int)
                · rw [if_pos c10] at H
                  have c10b0 : decide (x7_3 < (x0_5.size : Int)) = true := decide_eq_true c10
                  clear c10
                  by_cases c11 : 0 ≤ x7_3
                  · rw [if_pos c11] at H
                    have c11b0 : decide (0 ≤ x7_3) = true := decide_eq_true c11
                    clear c11
                    replace H := Option.bind_eq_some_iff.mp H
                    obtain ⟨t353, A130, H⟩ := H
                    replace H : (if t353 = true then (if x6_3 = true then (constableref01_Number.l0 k3 x0_5 x4_1 x5_3 true (wrap64 (x7_3 + 1))) else (if (x5_3 > ((4611686018427387904 - (((bt x0_5 x7_3) - 48) % 256)) / 10)) then (constableref01_Number.l0 k3 x0_5 x4_1 x5_3 (decide (x5_3 > ((4611686018427387904 - (((bt x0_5 x7_3) - 48) % 256)) / 10))) (wrap64 (x7_3 + 1))) else (constableref01_Number.l0 k3 x0_5 x4_1 (wrap64 ((wrap64 (10 * x5_3)) + (((bt x0_5 x7_3) - 48) % 256))) (decide (x5_3 > ((4611686018427387904 - (((bt x0_5 x7_3) - 48) % 256)) / 10))) (wrap64 (x7_3 + 1))))) else (some (0, false))) = some (r1, r2) := H
                    have A13 := Aside0.mk A130
                    clear A130
                    by_cases c14 : t353 = true
                    · subst c14
                      have H1 : (if x6_3 = true then (constableref01_Number.l0 k3 x0_5 x4_1 x5_3 true (wrap64 (x7_3 + 1))) else (if (x5_3 > ((4611686018427387904 - (((bt x0_5 x7_3) - 48) % 256)) / 10)) then (constableref01_Number.l0 k3 x0_5 x4_1 x5_3 (decide (x5_3 > ((4611686018427387904 - (((bt x0_5 x7_3) - 48) % 256)) / 10))) (wrap64 (x7_3 + 1))) else (constableref01_Number.l0 k3 x0_5 x4_1 (wrap64 ((wrap64 (10 * x5_3)) + (((bt x0_5 x7_3) - 48) % 256))) (decide (x5_3 > ((4611686018427387904 - (((bt x0_5 x7_3) - 48) % 256)) / 10))) (wrap64 (x7_3 + 1))))) = some (r1, r2) := by rw [if_pos rfl] at H; exact H
                      clear H
                      have H := H1
                      clear H1
                      by_cases c16 : x6_3 = true
                      · subst c16
                        have H1 : (constableref01_Number.l0 k3 x0_5 x4_1 x5_3 true (wrap64 (x7_3 + 1))) = some (r1, r2) := by rw [if_pos rfl] at H; exact H
                        clear H
                        have H := H1
                        clear H1
                        have H' := Aside0.mk H
                        clear H
                        have p12 : 0 ≤ (x7_3 : Int) := dt_
                        have q12 : x7_3 < (x0_5.size : Int) := dt_
                        have hx12 := bt_at x0_5 x7_3
                        replace p12 := eq_true p12
                        replace q12 := eq_true q12
                        go_wp2_with (first | ((with_reducible refine gate_callee (f := 72) rfl ?_); refine goesL_ (some 32) rfl rfl Tryd.func72 (by kernel_rfl) rfl #[.int .u8 (bt x0_5 x7_3)] rfl ga_ ?_; (with_reducible refine (constableref01_Digit.calls (bt x0_5 x7_3) true _ A13.out).mono ?_); rintro e w' ⟨rfl, ⟨nd, rfl⟩⟩; refine ⟨_, rfl, ?_⟩; have p15 : 0 ≤ (x7_3 : Int) := dt_; have q15 : x7_3 < (x0_5.size : Int) := dt_; have hx15 := bt_at x0_5 x7_3; replace p15 := eq_true p15; replace q15 := eq_true q15))
                        go_roundg k3
                        case measure => have := HJ1.out; have := HJ5.out; have := HK3.out; omega
                        case rel => exact ⟨(x5_3), (true), (wrap64 (x7_3 + 1)), ra_, ra_, ra_, H', ⟨by have := HJ1.out; have := HJ5.out; have := HK3.out; omega⟩, dz_⟩
                      · replace c16 := Bool.eq_false_iff.mpr c16
                        subst c16
                        have H1 : (if (x5_3 > ((4611686018427387904 - (((bt x0_5 x7_3) - 48) % 256)) / 10)) then (constableref01_Number.l0 k3 x0_5 x4_1 x5_3 (decide (x5_3 > ((4611686018427387904 - (((bt x0_5 x7_3) - 48) % 256)) / 10))) (wrap64 (x7_3 + 1))) else (constableref01_Number.l0 k3 x0_5 x4_1 (wrap64 ((wrap64 (10 * x5_3)) + (((bt x0_5 x7_3) - 48) % 256))) (decide (x5_3 > ((4611686018427387904 - (((bt x0_5 x7_3) - 48) % 256)) / 10))) (wrap64 (x7_3 + 1)))) = some (r1, r2) := by rw [if_neg (show ¬ (false = true) by decide)] at H; exact H
                        clear H
                        have H := H1
                        clear H1
                        by_cases c17 : (x5_3 > ((4611686018427387904 - (((bt x0_5 x7_3) - 48) % 256)) / 10))
                        · rw [if_pos c17] at H
                          have c17b0 : decide (((4611686018427387904 - (((bt x0_5 x7_3) - 48) % 256)) / 10) < x5_3) = true := decide_eq_true c17
                          clear c17
                          have H' := Aside0.mk H
                          clear H
                          have p12 : 0 ≤ (x7_3 : Int) := dt_
                          have q12 : x7_3 < (x0_5.size : Int) := dt_
                          have hx12 := bt_at x0_5 x7_3
                          replace p12 := eq_true p12
                          replace q12 := eq_true q12
                          go_wp2_with (first | ((with_reducible refine gate_callee (f := 72) rfl ?_); refine goesL_ (some 32) rfl rfl Tryd.func72 (by kernel_rfl) rfl #[.int .u8 (bt x0_5 x7_3)] rfl ga_ ?_; (with_reducible refine (constableref01_Digit.calls (bt x0_5 x7_3) true _ A13.out).mono ?_); rintro e w' ⟨rfl, ⟨nd, rfl⟩⟩; refine ⟨_, rfl, ?_⟩; have p15 : 0 ≤ (x7_3 : Int) := dt_; have q15 : x7_3 < (x0_5.size : Int) := dt_; have hx15 := bt_at x0_5 x7_3; replace p15 := eq_true p15; replace q15 := eq_true q15))
                          go_roundg k3
                          case measure => have := HJ1.out; have := HJ5.out; have := HK3.out; omega
                          case rel => exact ⟨(x5_3), (decide (x5_3 > ((4611686018427387904 - (((bt x0_5 x7_3) - 48) % 256)) / 10))), (wrap64 (x7_3 + 1)), ra_, ra_, ra_, H', ⟨by have := HJ1.out; have := HJ5.out; have := HK3.out; omega⟩, dz_⟩
                        · rw [if_neg c17] at H
                          have c17b0 : decide (((4611686018427387904 - (((bt x0_5 x7_3) - 48) % 256)) / 10) < x5_3) = false := decide_eq_false c17
                          clear c17
                          have H' := Aside0.mk H
                          clear H
                          have p12 : 0 ≤ (x7_3 : Int) := dt_
                          have q12 : x7_3 < (x0_5.size : Int) := dt_
                          have hx12 := bt_at x0_5 x7_3
                          replace p12 := eq_true p12
                          replace q12 := eq_true q12
                          go_wp2_with (first | ((with_reducible refine gate_callee (f := 72) rfl ?_); refine goesL_ (some 32) rfl rfl Tryd.func72 (by kernel_rfl) rfl #[.int .u8 (bt x0_5 x7_3)] rfl ga_ ?_; (with_reducible refine (constableref01_Digit.calls (bt x0_5 x7_3) true _ A13.out).mono ?_); rintro e w' ⟨rfl, ⟨nd, rfl⟩⟩; refine ⟨_, rfl, ?_⟩; have p15 : 0 ≤ (x7_3 : Int) := dt_; have q15 : x7_3 < (x0_5.size : Int) := dt_; have hx15 := bt_at x0_5 x7_3; replace p15 := eq_true p15; replace q15 := eq_true q15))
                          go_roundg k3
                          case measure => have := HJ1.out; have := HJ5.out; have := HK3.out; omega
                          case rel => exact ⟨(wrap64 ((wrap64 (10 * x5_3)) + (((bt x0_5 x7_3) - 48) % 256))), (decide (x5_3 > ((4611686018427387904 - (((bt x0_5 x7_3) - 48) % 256)) / 10))), (wrap64 (x7_3 + 1)), ra_, ra_, ra_, H', ⟨by have := HJ1.out; have := HJ5.out; have := HK3.out; omega⟩, dz_⟩
                    · replace c14 := Bool.eq_false_iff.mpr c14
                      subst c14
                      have H1 : (some (0, false)) = some (r1, r2) := by rw [if_neg (show ¬ (false = true) by decide)] at H; exact H
                      clear H
                      have H := H1
                      clear H1
                      simp only [Option.some.injEq, Prod.mk.injEq] at H
                      obtain ⟨rfl, rfl⟩ := H
                      have p12 : 0 ≤ (x7_3 : Int) := dt_
                      have q12 : x7_3 < (x0_5.size : Int) := dt_
                      have hx12 := bt_at x0_5 x7_3
                      replace p12 := eq_true p12
                      replace q12 := eq_true q12
                      go_wp2_with (first | ((with_reducible refine gate_callee (f := 72) rfl ?_); refine goesL_ (some 32) rfl rfl Tryd.func72 (by kernel_rfl) rfl #[.int .u8 (bt x0_5 x7_3)] rfl ga_ ?_; (with_reducible refine (constableref01_Digit.calls (bt x0_5 x7_3) false _ A13.out).mono ?_); rintro e w' ⟨rfl, ⟨nd, rfl⟩⟩; refine ⟨_, rfl, ?_⟩))
                      go_ret2
                      exact rz_
                  · rw [if_neg c11] at H
                    exact absurd H (by simp)
                · rw [if_neg c10] at H
                  have c10b0 : decide (x7_3 < (x0_5.size : Int)) = false := decide_eq_false c10
                  clear c10
                  by_cases c18 : x6_3 = true
                  · subst c18
                    have H1 : (some (0, false)) = some (r1, r2) := by rw [if_pos rfl] at H; exact H
                    clear H
                    have H := H1
                    clear H1
                    simp only [Option.some.injEq, Prod.mk.injEq] at H
                    obtain ⟨rfl, rfl⟩ := H
                    go_wp2
                    go_ret2
                    exact rz_
                  · replace c18 := Bool.eq_false_iff.mpr c18
                    subst c18
                    have H1 : (if x4_1 = true then (some (wrap64 (-x5_3), true)) else (some (x5_3, true))) = some (r1, r2) := by rw [if_neg (show ¬ (false = true) by decide)] at H; exact H
                    clear H
                    have H := H1
                    clear H1
                    by_cases c19 : x4_1 = true
                    · subst c19
                      have H1 : (some (wrap64 (-x5_3), true)) = some (r1, r2) := by rw [if_pos rfl] at H; exact H
                      clear H
                      have H := H1
                      clear H1
                      simp only [Option.some.injEq, Prod.mk.injEq] at H
                      obtain ⟨rfl, rfl⟩ := H
                      go_wp2
                      go_ret2
                      exact rz_
                    · replace c19 := Bool.eq_false_iff.mpr c19
                      subst c19
                      have H1 : (some (x5_3, true)) = some (r1, r2) := by rw [if_neg (show ¬ (false = true) by decide)] at H; exact H
                      clear H
                      have H := H1
                      clear H1
                      simp only [Option.some.injEq, Prod.mk.injEq] at H
                      obtain ⟨rfl, rfl⟩ := H
                      go_wp2
                      go_ret2
                      exact rz_
end Go.Proofs.YtaopajmpifenoaaDoor.P
end
section
namespace Go.Proofs.YtaopajmpifenoaaDoor.P
open Go.RowKit Go.Proofs.YtaopajmpifenoaaDoorW.PrintWords Go.Proofs.YtaopajmpifenoaaDoorW.PrintLast Go.Proofs.YtaopajmpifenoaaDoorW.PrintMore
attribute [local go_sem] max2_int min2_int max_two min_two max_three min_three max_four min_four
set_option linter.unusedVariables false
set_option linter.unusedSimpArgs false
mutual
def constableref01_Quoted.j0 : Nat → ByteArray → Bool → Option (ByteArray × Bool)
  | 0, _, _ => none
  | k + 1, x0, x13 => if x13 = true then (some ((⟨#[]⟩ : ByteArray), false)) else (constableref01_Quoted.l0 k x0 (⟨#[]⟩ : ByteArray) 1)
def constableref01_Quoted.l0 : Nat → ByteArray → ByteArray → Int → Option (ByteArray × Bool)
  | 0, _, _, _ => none
  | k + 1, x0, x4, x5 => if x5 < (x0.size : Int) then (if 0 ≤ x5 then (if (bt x0 x5) = 34 then (if x5 = (wrap64 ((x0.size : Int) - 1)) then (some (x4, decide ((x4.size : Int) ≤ 60))) else (some (x4, false))) else (if (bt x0 x5) = 92 then (if (wrap64 (x5 + 1)) ≥ (x0.size : Int) then (some ((⟨#[]⟩ : ByteArray), false)) else (if 0 ≤ (wrap64 (x5 + 1)) then (if (wrap64 (x5 + 1)) < (x0.size : Int) then (if (bt x0 (wrap64 (x5 + 1))) = 34 then (if (wrap64 (x5 + 1)) ≤ (wrap64 ((wrap64 (x5 + 1)) + 1)) then (if (wrap64 ((wrap64 (x5 + 1)) + 1)) ≤ (x0.size : Int) then (if x4.size + (x0.extract ((wrap64 (x5 + 1)) : Int).toNat ((wrap64 ((wrap64 (x5 + 1)) + 1)) : Int).toNat).size ≤ 9223372036854775807 then (constableref01_Quoted.l0 k x0 (x4 ++ (x0.extract ((wrap64 (x5 + 1)) : Int).toNat ((wrap64 ((wrap64 (x5 + 1)) + 1)) : Int).toNat)) (wrap64 ((wrap64 (x5 + 1)) + 1))) else (none)) else (none)) else (none)) else (if (bt x0 (wrap64 (x5 + 1))) = 92 then (if (wrap64 (x5 + 1)) ≤ (wrap64 ((wrap64 (x5 + 1)) + 1)) then (if (wrap64 ((wrap64 (x5 + 1)) + 1)) ≤ (x0.size : Int) then (if x4.size + (x0.extract ((wrap64 (x5 + 1)) : Int).toNat ((wrap64 ((wrap64 (x5 + 1)) + 1)) : Int).toNat).size ≤ 9223372036854775807 then (constableref01_Quoted.l0 k x0 (x4 ++ (x0.extract ((wrap64 (x5 + 1)) : Int).toNat ((wrap64 ((wrap64 (x5 + 1)) + 1)) : Int).toNat)) (wrap64 ((wrap64 (x5 + 1)) + 1))) else (none)) else (none)) else (none)) else (some ((⟨#[]⟩ : ByteArray), false)))) else (none)) else (none))) else ((constableref01_In.f (wrap64 (bt x0 x5)) 32 126).bind fun t354 => (if t354 = true then (if x5 ≤ (wrap64 (x5 + 1)) then (if (wrap64 (x5 + 1)) ≤ (x0.size : Int) then (if x4.size + (x0.extract (x5 : Int).toNat ((wrap64 (x5 + 1)) : Int).toNat).size ≤ 9223372036854775807 then (constableref01_Quoted.l0 k x0 (x4 ++ (x0.extract (x5 : Int).toNat ((wrap64 (x5 + 1)) : Int).toNat)) (wrap64 (x5 + 1))) else (none)) else (none)) else (none)) else (some ((⟨#[]⟩ : ByteArray), false)))))) else (none)) else (some ((⟨#[]⟩ : ByteArray), false))
end
def constableref01_Quoted.f (k : Nat) (a0 : ByteArray) : Option (ByteArray × Bool) := if (a0.size : Int) < 2 then (constableref01_Quoted.j0 k a0 true) else (if 0 < (a0.size : Int) then (constableref01_Quoted.j0 k a0 ((bt a0 0) != 34)) else (none))
theorem constableref01_Quoted.mono_l : ∀ k, (∀ y0 y1, LeO (constableref01_Quoted.j0 k y0 y1) (constableref01_Quoted.j0 (k + 1) y0 y1)) ∧ (∀ y0 y1 y2, LeO (constableref01_Quoted.l0 k y0 y1 y2) (constableref01_Quoted.l0 (k + 1) y0 y1 y2))
  | 0 => ⟨fun _ _ r h => by simp [constableref01_Quoted.j0] at h, fun _ _ _ r h => by simp [constableref01_Quoted.l0] at h⟩
  | k + 1 => by
    obtain ⟨ih0, ih1⟩ := constableref01_Quoted.mono_l k
    refine ⟨?_, ?_⟩
    · intro y0 y1
      unfold constableref01_Quoted.j0
      repeat' first
      | (with_reducible exact ih0 _ _)
      | (with_reducible exact ih1 _ _ _)
      | (with_reducible exact LeO.refl _)
      | (with_reducible exact LeO.none _)
      | (with_reducible refine LeO.ite ?_ ?_)
      | (with_reducible refine LeO.bind ?_ (fun _ => ?_))
      | exact ih0 _ _
      | exact ih1 _ _ _
      | exact LeO.none _
      | refine LeO.ite ?_ ?_
      | refine LeO.bind ?_ (fun _ => ?_)
    · intro y0 y1 y2
      unfold constableref01_Quoted.l0
      repeat' first
      | (with_reducible exact ih0 _ _)
      | (with_reducible exact ih1 _ _ _)
      | (with_reducible exact LeO.refl _)
      | (with_reducible exact LeO.none _)
      | (with_reducible refine LeO.ite ?_ ?_)
      | (with_reducible refine LeO.bind ?_ (fun _ => ?_))
      | exact ih0 _ _
      | exact ih1 _ _ _
      | exact LeO.none _
      | refine LeO.ite ?_ ?_
      | refine LeO.bind ?_ (fun _ => ?_)
theorem constableref01_Quoted.mono : ∀ a0 k, LeO (constableref01_Quoted.f k a0) (constableref01_Quoted.f (k + 1) a0) := by
  intro a0 k
  obtain ⟨ih0, ih1⟩ := constableref01_Quoted.mono_l k
  unfold constableref01_Quoted.f
  repeat' first
      | (with_reducible exact ih0 _ _)
      | (with_reducible exact ih1 _ _ _)
      | (with_reducible exact LeO.refl _)
      | (with_reducible exact LeO.none _)
      | (with_reducible refine LeO.ite ?_ ?_)
      | (with_reducible refine LeO.bind ?_ (fun _ => ?_))
      | exact ih0 _ _
      | exact ih1 _ _ _
      | exact LeO.none _
      | refine LeO.ite ?_ ?_
      | refine LeO.bind ?_ (fun _ => ?_)
set_option maxHeartbeats 8000000 in
set_option maxRecDepth 100000 in
theorem constableref01_Quoted.calls (k : Nat) (a0 : ByteArray) (r1 : ByteArray) (r2 : Bool) (w : World) (h : constableref01_Quoted.f k a0 = some (r1, r2)) :
    Calls Tryd.prog 54 #[.string a0] w fun e w' => e = .returned (.tuple #[.string r1, .bool r2]) ∧ Drawn0 w w' := by
  have H : (if (a0.size : Int) < 2 then (constableref01_Quoted.j0 k a0 true) else (if 0 < (a0.size : Int) then (constableref01_Quoted.j0 k a0 ((bt a0 0) != 34)) else (none))) = some (r1, r2) := h
  clear h
  have HC2 := Aside0.mk H
  clear H
  go_enter Tryd.func54, Tryd.ntmps54
  go_upto_region 1 with (fail)
  go_cut [13] (fun v13 wc => ∃ (kq : Nat) (x13_1 : Bool), v13 = .bool x13_1 ∧ Aside0 (constableref01_Quoted.j0 kq a0 x13_1 = some (r1, r2)) ∧ Aside0 (kq ≤ k) ∧ Drawn0 w wc)
  case first =>
    have H := HC2.out
    clear HC2
    by_cases c3 : (a0.size : Int) < 2
    · rw [if_pos c3] at H
      have c3b0 : decide ((a0.size : Int) < 2) = true := decide_eq_true c3
      have c3b1 : decide (a0.size < 2) = true := decide_eq_true (by omega)
      clear c3
      (first | rw [c3b0] | (simp only [i64_w, i32_w]; rw [c3b0]) | skip)
      have H' := Aside0.mk H
      clear H
      go_wp2
      go_meet
      case rel => exact ⟨_, (true), ra_, H', ⟨by first | omega | exact Nat.le_refl _⟩, dz_⟩
    · rw [if_neg c3] at H
      have c3b0 : decide ((a0.size : Int) < 2) = false := decide_eq_false c3
      have c3b1 : decide (a0.size < 2) = false := decide_eq_false (by omega)
      clear c3
      (first | rw [c3b0] | (simp only [i64_w, i32_w]; rw [c3b0]) | skip)
      by_cases c4 : 0 < (a0.size : Int)
      · rw [if_pos c4] at H
        have c4b0 : decide (0 < (a0.size : Int)) = true := decide_eq_true c4
        have c4b1 : decide (0 < a0.size) = true := decide_eq_true (by omega)
        clear c4
        have H' := Aside0.mk H
        clear H
        have p5 : 0 ≤ (0 : Int) := (by omega)
        have q5 : 0 < a0.size := (by have : (0 : Int) < (a0.size : Int) := dt_; omega)
        have hx5 : ∀ h : 0 < a0.size, ((a0[0]'h).toNat : Int) = bt a0 0 := bt_at a0 0
        clear p5
        have qi5 : (0 < (a0.size : Int)) = True := eq_true dt_
        replace q5 := eq_true q5
        go_wp2
        go_meet
        case rel => exact ⟨_, (((bt a0 0) != 34)), ra_, H', ⟨by first | omega | exact Nat.le_refl _⟩, dz_⟩
      · rw [if_neg c4] at H
        exact absurd H (by simp)
  case rest =>
    clear HC2
    try clear p2
    try clear c3
    try clear c3b0
    try clear c3b1
    try clear c4
    try clear c4b0
    try clear c4b1
    try clear c5
    try clear p5
    try clear q5
    try clear hx5
    try clear qi5
    try clear p5
    try clear q5
    obtain ⟨kq, x13_1, rfl, HA, HJ1, ⟨mc1, rfl⟩⟩ := hcut
    cases kq with
    | zero => exact absurd HA.out (by simp [constableref01_Quoted.j0])
    | succ kj1 =>
      have H := HA.out
      clear HA
      simp only [constableref01_Quoted.j0] at H
      by_cases c6 : x13_1 = true
      · subst c6
        have H1 : (some ((⟨#[]⟩ : ByteArray), false)) = some (r1, r2) := by rw [if_pos rfl] at H; exact H
        clear H
        have H := H1
        clear H1
        simp only [Option.some.injEq, Prod.mk.injEq] at H
        obtain ⟨rfl, rfl⟩ := H
        go_wp2
        go_ret2
        exact rz_
      · replace c6 := Bool.eq_false_iff.mpr c6
        subst c6
        have H1 : (constableref01_Quoted.l0 kj1 a0 (⟨#[]⟩ : ByteArray) 1) = some (r1, r2) := by rw [if_neg (show ¬ (false = true) by decide)] at H; exact H
        clear H
        have H := H1
        clear H1
        have H' := Aside0.mk H
        clear H
        go_wp2
        go_loopg [4, 5] kj1 (fun kq v4 v5 w' => ∃ (x4_2 : ByteArray) (x5_2 : Int), v4 = .string x4_2 ∧ v5 = .int .i64 x5_2 ∧ Aside0 (constableref01_Quoted.l0 kq a0 x4_2 x5_2 = some (r1, r2)) ∧ Aside0 (kq ≤ kj1) ∧ Drawn0 w w')
        case atStart => exact ⟨((⟨#[]⟩ : ByteArray)), (1), ra_, ra_, H', ⟨Nat.le_refl _⟩, dz_⟩
        case round =>
          clear H'
          try clear c1
          try clear p2
          try clear c3
          try clear c3b0
          try clear c3b1
          try clear c4
          try clear c4b0
          try clear c4b1
          try clear c5
          try clear p5
          try clear q5
          try clear hx5
          try clear qi5
          try clear c6
          try clear p2
          try clear p5
          try clear q5
          obtain ⟨x4_2, x5_2, rfl, rfl, HA, HK2, ⟨m2, rfl⟩⟩ := hrel
          cases gk with
          | zero => exact absurd HA.out (by simp [constableref01_Quoted.l0])
          | succ k2 =>
            have H := HA.out
            clear HA
            simp only [constableref01_Quoted.l0] at H
            by_cases c7 : x5_2 < (a0.size : Int)
            · rw [if_pos c7] at H
              have c7b0 : decide (x5_2 < (a0.size : Int)) = true := decide_eq_true c7
              clear c7
              by_cases c8 : 0 ≤ x5_2
              · rw [if_pos c8] at H
                have c8b0 : decide (0 ≤ x5_2) = true := decide_eq_true c8
                clear c8
                by_cases c10 : (bt a0 x5_2) = 34
                · rw [if_pos c10] at H
                  obtain ⟨c10b0, c10b1⟩ := eqB_ c10
                  clear c10
                  by_cases c11 : x5_2 = (wrap64 ((a0.size : Int) - 1))
                  · rw [if_pos c11] at H
                    obtain ⟨c11b0, c11b1⟩ := eqB_ c11
                    clear c11
                    simp only [Option.some.injEq, Prod.mk.injEq] at H
                    obtain ⟨rfl, rfl⟩ := H
                    have p9 : 0 ≤ (x5_2 : Int) := dt_
                    have q9 : x5_2 < (a0.size : Int) := dt_
                    have hx9 := bt_at a0 x5_2
                    replace p9 := eq_true p9
                    replace q9 := eq_true q9
                    go_wp2
                    go_ret2
                    exact rz_
                  · rw [if_neg c11] at H
                    obtain ⟨c11b0, c11b1⟩ := neB_ c11
                    simp only [Option.some.injEq, Prod.mk.injEq] at H
                    obtain ⟨rfl, rfl⟩ := H
                    have p9 : 0 ≤ (x5_2 : Int) := dt_
                    have q9 : x5_2 < (a0.size : Int) := dt_
                    have hx9 := bt_at a0 x5_2
                    replace p9 := eq_true p9
                    replace q9 := eq_true q9
                    go_wp2
                    go_ret2
                    exact rz_
                · rw [if_neg c10] at H
                  obtain ⟨c10b0, c10b1⟩ := neB_ c10
                  by_cases c13 : (bt a0 x5_2) = 92
                  · rw [if_pos c13] at H
                    obtain ⟨c13b0, c13b1⟩ := eqB_ c13
                    clear c13
                    by_cases c14 : (wrap64 (x5_2 + 1)) ≥ (a0.size : Int)
                    · rw [if_pos c14] at H
                      have c14b0 : decide ((a0.size : Int) ≤ (wrap64 (x5_2 + 1))) = true := decide_eq_true c14
                      clear c14
                      simp only [Option.some.injEq, Prod.mk.injEq] at H
                      obtain ⟨rfl, rfl⟩ := H
                      have p9 : 0 ≤ (x5_2 : Int) := dt_
                      have q9 : x5_2 < (a0.size : Int) := dt_
                      have hx9 := bt_at a0 x5_2
                      replace p9 := eq_true p9
                      replace q9 := eq_true q9
                      have p12 : 0 ≤ (x5_2 : Int) := dt_
                      have q12 : x5_2 < (a0.size : Int) := dt_
                      have hx12 := bt_at a0 x5_2
                      replace p12 := eq_true p12
                      replace q12 := eq_true q12
                      go_wp2
                      go_ret2
                      exact rz_
                    · rw [if_neg c14] at H
                      have c14b0 : decide ((a0.size : Int) ≤ (wrap64 (x5_2 + 1))) = false := decide_eq_false c14
                      clear c14
                      obtain ⟨ji15, hji15⟩ : ∃ j_ : Int, (wrap64 (x5_2 + 1)) = j_ := ⟨_, rfl⟩
                      replace H : (if 0 ≤ (ji15) then (if (ji15) < (a0.size : Int) then (if (bt a0 (ji15)) = 34 then (if (ji15) ≤ (wrap64 ((ji15) + 1)) then (if (wrap64 ((ji15) + 1)) ≤ (a0.size : Int) then (if x4_2.size + (a0.extract ((ji15) : Int).toNat ((wrap64 ((ji15) + 1)) : Int).toNat).size ≤ 9223372036854775807 then (constableref01_Quoted.l0 k2 a0 (x4_2 ++ (a0.extract ((ji15) : Int).toNat ((wrap64 ((ji15) + 1)) : Int).toNat)) (wrap64 ((ji15) + 1))) else (none)) else (none)) else (none)) else (if (bt a0 (ji15)) = 92 then (if (ji15) ≤ (wrap64 ((ji15) + 1)) then (if (wrap64 ((ji15) + 1)) ≤ (a0.size : Int) then (if x4_2.size + (a0.extract ((ji15) : Int).toNat ((wrap64 ((ji15) + 1)) : Int).toNat).size ≤ 9223372036854775807 then (constableref01_Quoted.l0 k2 a0 (x4_2 ++ (a0.extract ((ji15) : Int).toNat ((wrap64 ((ji15) + 1)) : Int).toNat)) (wrap64 ((ji15) + 1))) else (none)) else (none)) else (none)) else (some ((⟨#[]⟩ : ByteArray), false)))) else (none)) else (none)) = some (r1, r2) := by first | (rw [hji15] at H; exact H) | (simp only [hji15] at H ⊢; exact H)
                      (try rw [hji15] at c14b0)
                      have hji15w : (IntKind.i64.wrap (x5_2 + 1)) = ji15 := (i64_w _).trans hji15
                      by_cases c16 : 0 ≤ (ji15)
                      · rw [if_pos c16] at H
                        have c16b0 : decide (0 ≤ (ji15)) = true := decide_eq_true c16
                        clear c16
                        by_cases c17 : (ji15) < (a0.size : Int)
                        · rw [if_pos c17] at H
                          have c17b0 : decide ((ji15) < (a0.size : Int)) = true := decide_eq_true c17
                          clear c17
                          by_cases c19 : (bt a0 (ji15)) = 34
                          · rw [if_pos c19] at H
                            obtain ⟨c19b0, c19b1⟩ := eqB_ c19
                            clear c19
                            have c20b0 := eq_true (of_decide_eq_true (by first | (with_reducible assumption) | assumption) : 0 ≤ (ji15))
                            by_cases c21 : (ji15) ≤ (wrap64 ((ji15) + 1))
                            · rw [if_pos c21] at H
                              have c21b0 := eq_true c21
                              have c21b1 : decide ((ji15) ≤ (wrap64 ((ji15) + 1))) = true := decide_eq_true c21
                              by_cases c22 : (wrap64 ((ji15) + 1)) ≤ (a0.size : Int)
                              · rw [if_pos c22] at H
                                have c22b0 := eq_true c22
                                have c22b1 : decide ((wrap64 ((ji15) + 1)) ≤ (a0.size : Int)) = true := decide_eq_true c22
                                by_cases c23 : x4_2.size + (a0.extract ((ji15) : Int).toNat ((wrap64 ((ji15) + 1)) : Int).toNat).size ≤ 9223372036854775807
                                · rw [if_pos c23] at H
                                  have c23b0 := eq_true c23
                                  have c23b1 : decide (x4_2.size + (a0.extract ((ji15) : Int).toNat ((wrap64 ((ji15) + 1)) : Int).toNat).size ≤ 9223372036854775807) = true := decide_eq_true c23
                                  try have c23b2 : (9223372036854775807 < x4_2.size + (a0.extract ((ji15) : Int).toNat ((wrap64 ((ji15) + 1)) : Int).toNat).size) = False := eq_false (Nat.not_lt.2 c23)
                                  have H' := Aside0.mk H
                                  clear H
                                  have p9 : 0 ≤ (x5_2 : Int) := dt_
                                  have q9 : x5_2 < (a0.size : Int) := dt_
                                  have hx9 := bt_at a0 x5_2
                                  replace p9 := eq_true p9
                                  replace q9 := eq_true q9
                                  have p12 : 0 ≤ (x5_2 : Int) := dt_
                                  have q12 : x5_2 < (a0.size : Int) := dt_
                                  have hx12 := bt_at a0 x5_2
                                  replace p12 := eq_true p12
                                  replace q12 := eq_true q12
                                  have p18 : 0 ≤ ((ji15) : Int) := dt_
                                  have q18 : (ji15) < (a0.size : Int) := dt_
                                  have hx18 := bt_at a0 (ji15)
                                  replace p18 := eq_true p18
                                  replace q18 := eq_true q18
                                  go_wp2
                                  go_roundg k2
                                  case measure => have := HJ1.out; have := HK2.out; omega
                                  case rel => exact ⟨(x4_2 ++ (a0.extract ((ji15) : Int).toNat ((wrap64 ((ji15) + 1)) : Int).toNat)), (wrap64 ((ji15) + 1)), (by first | rfl | (simp; done) | (simp only [← hji15] <;> (first | rfl | simp)) | (simp [*]; done)), (by first | rfl | (simp; done) | (simp only [← hji15] <;> (first | rfl | simp)) | (simp [*]; done)), H', ⟨by have := HJ1.out; have := HK2.out; omega⟩, dz_⟩
                                · rw [if_neg c23] at H
                                  exact absurd H (by simp)
                              · rw [if_neg c22] at H
                                exact absurd H (by simp)
                            · rw [if_neg c21] at H
                              exact absurd H (by simp)
                          · rw [if_neg c19] at H
                            obtain ⟨c19b0, c19b1⟩ := neB_ c19
                            by_cases c25 : (bt a0 (ji15)) = 92
                            · rw [if_pos c25] at H
                              obtain ⟨c25b0, c25b1⟩ := eqB_ c25
                              clear c25
                              have c26b0 := eq_true (of_decide_eq_true (by first | (with_reducible assumption) | assumption) : 0 ≤ (ji15))
                              by_cases c27 : (ji15) ≤ (wrap64 ((ji15) + 1))
                              · rw [if_pos c27] at H
                                have c27b0 := eq_true c27
                                have c27b1 : decide ((ji15) ≤ (wrap64 ((ji15) + 1))) = true := decide_eq_true c27
                                by_cases c28 : (wrap64 ((ji15) + 1)) ≤ (a0.size : Int)
                                · rw [if_pos c28] at H
                                  have c28b0 := eq_true c28
                                  have c28b1 : decide ((wrap64 ((ji15) + 1)) ≤ (a0.size : Int)) = true := decide_eq_true c28
                                  by_cases c29 : x4_2.size + (a0.extract ((ji15) : Int).toNat ((wrap64 ((ji15) + 1)) : Int).toNat).size ≤ 9223372036854775807
                                  · rw [if_pos c29] at H
                                    have c29b0 := eq_true c29
                                    have c29b1 : decide (x4_2.size + (a0.extract ((ji15) : Int).toNat ((wrap64 ((ji15) + 1)) : Int).toNat).size ≤ 9223372036854775807) = true := decide_eq_true c29
                                    try have c29b2 : (9223372036854775807 < x4_2.size + (a0.extract ((ji15) : Int).toNat ((wrap64 ((ji15) + 1)) : Int).toNat).size) = False := eq_false (Nat.not_lt.2 c29)
                                    have H' := Aside0.mk H
                                    clear H
                                    have p9 : 0 ≤ (x5_2 : Int) := dt_
                                    have q9 : x5_2 < (a0.size : Int) := dt_
                                    have hx9 := bt_at a0 x5_2
                                    replace p9 := eq_true p9
                                    replace q9 := eq_true q9
                                    have p12 : 0 ≤ (x5_2 : Int) := dt_
                                    have q12 : x5_2 < (a0.size : Int) := dt_
                                    have hx12 := bt_at a0 x5_2
                                    replace p12 := eq_true p12
                                    replace q12 := eq_true q12
                                    have p18 : 0 ≤ ((ji15) : Int) := dt_
                                    have q18 : (ji15) < (a0.size : Int) := dt_
                                    have hx18 := bt_at a0 (ji15)
                                    replace p18 := eq_true p18
                                    replace q18 := eq_true q18
                                    have p24 : 0 ≤ ((ji15) : Int) := dt_
                                    have q24 : (ji15) < (a0.size : Int) := dt_
                                    have hx24 := bt_at a0 (ji15)
                                    replace p24 := eq_true p24
                                    replace q24 := eq_true q24
                                    go_wp2
                                    go_roundg k2
                                    case measure => have := HJ1.out; have := HK2.out; omega
                                    case rel => exact ⟨(x4_2 ++ (a0.extract ((ji15) : Int).toNat ((wrap64 ((ji15) + 1)) : Int).toNat)), (wrap64 ((ji15) + 1)), (by first | rfl | (simp; done) | (simp only [← hji15] <;> (first | rfl | simp)) | (simp [*]; done)), (by first | rfl | (simp; done) | (simp only [← hji15] <;> (first | rfl | simp)) | (simp [*]; done)), H', ⟨by have := HJ1.out; have := HK2.out; omega⟩, dz_⟩
                                  · rw [if_neg c29] at H
                                    exact absurd H (by simp)
                                · rw [if_neg c28] at H
                                  exact absurd H (by simp)
                              · rw [if_neg c27] at H
                                exact absurd H (by simp)
                            · rw [if_neg c25] at H
                              obtain ⟨c25b0, c25b1⟩ := neB_ c25
                              simp only [Option.some.injEq, Prod.mk.injEq] at H
                              obtain ⟨rfl, rfl⟩ := H
                              have p9 : 0 ≤ (x5_2 : Int) := dt_
                              have q9 : x5_2 < (a0.size : Int) := dt_
                              have hx9 := bt_at a0 x5_2
                              replace p9 := eq_true p9
                              replace q9 := eq_true q9
                              have p12 : 0 ≤ (x5_2 : Int) := dt_
                              have q12 : x5_2 < (a0.size : Int) := dt_
                              have hx12 := bt_at a0 x5_2
                              replace p12 := eq_true p12
                              replace q12 := eq_true q12
                              have p18 : 0 ≤ ((ji15) : Int) := dt_
                              have q18 : (ji15) < (a0.size : Int) := dt_
                              have hx18 := bt_at a0 (ji15)
                              replace p18 := eq_true p18
                              replace q18 := eq_true q18
                              have p24 : 0 ≤ ((ji15) : Int) := dt_
                              have q24 : (ji15) < (a0.size : Int) := dt_
                              have hx24 := bt_at a0 (ji15)
                              replace p24 := eq_true p24
                              replace q24 := eq_true q24
                              go_wp2
                              go_ret2
                              exact ⟨by first | rfl | (simp; done) | (simp only [← hji15] <;> (first | rfl | simp)) | (simp [*]; done), dz_⟩
                        · rw [if_neg c17] at H
                          exact absurd H (by simp)
                      · rw [if_neg c16] at H
                        exact absurd H (by simp)
                  · rw [if_neg c13] at H
                    obtain ⟨c13b0, c13b1⟩ := neB_ c13
                    replace H := Option.bind_eq_some_iff.mp H
                    obtain ⟨t354, A310, H⟩ := H
                    replace H : (if t354 = true then (if x5_2 ≤ (wrap64 (x5_2 + 1)) then (if (wrap64 (x5_2 + 1)) ≤ (a0.size : Int) then (if x4_2.size + (a0.extract (x5_2 : Int).toNat ((wrap64 (x5_2 + 1)) : Int).toNat).size ≤ 9223372036854775807 then (constableref01_Quoted.l0 k2 a0 (x4_2 ++ (a0.extract (x5_2 : Int).toNat ((wrap64 (x5_2 + 1)) : Int).toNat)) (wrap64 (x5_2 + 1))) else (none)) else (none)) else (none)) else (some ((⟨#[]⟩ : ByteArray), false))) = some (r1, r2) := H
                    have A31 := Aside0.mk A310
                    clear A310
                    by_cases c32 : t354 = true
                    · subst c32
                      have H1 : (if x5_2 ≤ (wrap64 (x5_2 + 1)) then (if (wrap64 (x5_2 + 1)) ≤ (a0.size : Int) then (if x4_2.size + (a0.extract (x5_2 : Int).toNat ((wrap64 (x5_2 + 1)) : Int).toNat).size ≤ 9223372036854775807 then (constableref01_Quoted.l0 k2 a0 (x4_2 ++ (a0.extract (x5_2 : Int).toNat ((wrap64 (x5_2 + 1)) : Int).toNat)) (wrap64 (x5_2 + 1))) else (none)) else (none)) else (none)) = some (r1, r2) := by rw [if_pos rfl] at H; exact H
                      clear H
                      have H := H1
                      clear H1
                      have c33b0 := eq_true (of_decide_eq_true (by first | (with_reducible assumption) | assumption) : 0 ≤ x5_2)
                      by_cases c34 : x5_2 ≤ (wrap64 (x5_2 + 1))
                      · rw [if_pos c34] at H
                        have c34b0 := eq_true c34
                        have c34b1 : decide (x5_2 ≤ (wrap64 (x5_2 + 1))) = true := decide_eq_true c34
                        by_cases c35 : (wrap64 (x5_2 + 1)) ≤ (a0.size : Int)
                        · rw [if_pos c35] at H
                          have c35b0 := eq_true c35
                          have c35b1 : decide ((wrap64 (x5_2 + 1)) ≤ (a0.size : Int)) = true := decide_eq_true c35
                          by_cases c36 : x4_2.size + (a0.extract (x5_2 : Int).toNat ((wrap64 (x5_2 + 1)) : Int).toNat).size ≤ 9223372036854775807
                          · rw [if_pos c36] at H
                            have c36b0 := eq_true c36
                            have c36b1 : decide (x4_2.size + (a0.extract (x5_2 : Int).toNat ((wrap64 (x5_2 + 1)) : Int).toNat).size ≤ 9223372036854775807) = true := decide_eq_true c36
                            try have c36b2 : (9223372036854775807 < x4_2.size + (a0.extract (x5_2 : Int).toNat ((wrap64 (x5_2 + 1)) : Int).toNat).size) = False := eq_false (Nat.not_lt.2 c36)
                            have H' := Aside0.mk H
                            clear H
                            have p9 : 0 ≤ (x5_2 : Int) := dt_
                            have q9 : x5_2 < (a0.size : Int) := dt_
                            have hx9 := bt_at a0 x5_2
                            replace p9 := eq_true p9
                            replace q9 := eq_true q9
                            have p12 : 0 ≤ (x5_2 : Int) := dt_
                            have q12 : x5_2 < (a0.size : Int) := dt_
                            have hx12 := bt_at a0 x5_2
                            replace p12 := eq_true p12
                            replace q12 := eq_true q12
                            have p30 : 0 ≤ (x5_2 : Int) := dt_
                            have q30 : x5_2 < (a0.size : Int) := dt_
                            have hx30 := bt_at a0 x5_2
                            replace p30 := eq_true p30
                            replace q30 := eq_true q30
                            go_wp2_with (first | ((with_reducible refine gate_callee (f := 55) rfl ?_); refine goesL_ (some 64) rfl rfl Tryd.func55 (by kernel_rfl) rfl #[.int .i64 (wrap64 (bt a0 x5_2)), .int .i64 32, .int .i64 126] rfl ga_ ?_; (with_reducible refine (constableref01_In.calls (wrap64 (bt a0 x5_2)) 32 126 true _ A31.out).mono ?_); rintro e w' ⟨rfl, ⟨nd, rfl⟩⟩; refine ⟨_, rfl, ?_⟩))
                            go_roundg k2
                            case measure => have := HJ1.out; have := HK2.out; omega
                            case rel => exact ⟨(x4_2 ++ (a0.extract (x5_2 : Int).toNat ((wrap64 (x5_2 + 1)) : Int).toNat)), (wrap64 (x5_2 + 1)), ra_, ra_, H', ⟨by have := HJ1.out; have := HK2.out; omega⟩, dz_⟩
                          · rw [if_neg c36] at H
                            exact absurd H (by simp)
                        · rw [if_neg c35] at H
                          exact absurd H (by simp)
                      · rw [if_neg c34] at H
                        exact absurd H (by simp)
                    · replace c32 := Bool.eq_false_iff.mpr c32
                      subst c32
                      have H1 : (some ((⟨#[]⟩ : ByteArray), false)) = some (r1, r2) := by rw [if_neg (show ¬ (false = true) by decide)] at H; exact H
                      clear H
                      have H := H1
                      clear H1
                      simp only [Option.some.injEq, Prod.mk.injEq] at H
                      obtain ⟨rfl, rfl⟩ := H
                      have p9 : 0 ≤ (x5_2 : Int) := dt_
                      have q9 : x5_2 < (a0.size : Int) := dt_
                      have hx9 := bt_at a0 x5_2
                      replace p9 := eq_true p9
                      replace q9 := eq_true q9
                      have p12 : 0 ≤ (x5_2 : Int) := dt_
                      have q12 : x5_2 < (a0.size : Int) := dt_
                      have hx12 := bt_at a0 x5_2
                      replace p12 := eq_true p12
                      replace q12 := eq_true q12
                      have p30 : 0 ≤ (x5_2 : Int) := dt_
                      have q30 : x5_2 < (a0.size : Int) := dt_
                      have hx30 := bt_at a0 x5_2
                      replace p30 := eq_true p30
                      replace q30 := eq_true q30
                      go_wp2_with (first | ((with_reducible refine gate_callee (f := 55) rfl ?_); refine goesL_ (some 64) rfl rfl Tryd.func55 (by kernel_rfl) rfl #[.int .i64 (wrap64 (bt a0 x5_2)), .int .i64 32, .int .i64 126] rfl ga_ ?_; (with_reducible refine (constableref01_In.calls (wrap64 (bt a0 x5_2)) 32 126 false _ A31.out).mono ?_); rintro e w' ⟨rfl, ⟨nd, rfl⟩⟩; refine ⟨_, rfl, ?_⟩))
                      go_ret2
                      exact rz_
              · rw [if_neg c8] at H
                exact absurd H (by simp)
            · rw [if_neg c7] at H
              have c7b0 : decide (x5_2 < (a0.size : Int)) = false := decide_eq_false c7
              clear c7
              simp only [Option.some.injEq, Prod.mk.injEq] at H
              obtain ⟨rfl, rfl⟩ := H
              go_wp2
              go_ret2
              exact rz_
end Go.Proofs.YtaopajmpifenoaaDoor.P
end
section
namespace Go.Proofs.YtaopajmpifenoaaDoor.P
open Go.RowKit Go.Proofs.YtaopajmpifenoaaDoorW.PrintWords Go.Proofs.YtaopajmpifenoaaDoorW.PrintLast Go.Proofs.YtaopajmpifenoaaDoorW.PrintMore
attribute [local go_sem] max2_int min2_int max_two min_two max_three min_three max_four min_four
set_option linter.unusedVariables false
set_option linter.unusedSimpArgs false
def constableref01_ParseValue.j0 : Nat → ByteArray → Int → Int → ByteArray → Option (Int × Int × ByteArray × Bool)
  | 0, _, _, _, _ => none
  | k + 1, x0, x357000, x357001, x357002 => (constableref01_Value.f k x357000 x357001 x357002).bind fun t361 => (if t361 = true then ((constableref01_ValueText.f k x357000 x357001 x357002).bind fun t362 => (if t362.toList = x0.toList then (some (x357000, x357001, x357002, true)) else (some (0, 0, (⟨#[]⟩ : ByteArray), false)))) else (some (0, 0, (⟨#[]⟩ : ByteArray), false)))
def constableref01_ParseValue.f (k : Nat) (a0 : ByteArray) : Option (Int × Int × ByteArray × Bool) := (constableref01_Number.f k a0).bind fun bt357 => (if bt357.2 = true then (constableref01_ParseValue.j0 k a0 1 bt357.1 (⟨#[]⟩ : ByteArray)) else ((constableref01_Quoted.f k a0).bind fun bt359 => (if bt359.2 = true then (constableref01_ParseValue.j0 k a0 3 0 bt359.1) else (constableref01_ParseValue.j0 k a0 2 0 a0))))
theorem constableref01_ParseValue.mono_l : ∀ k, (∀ y0 y1 y2 y3, LeO (constableref01_ParseValue.j0 k y0 y1 y2 y3) (constableref01_ParseValue.j0 (k + 1) y0 y1 y2 y3))
  | 0 => fun _ _ _ _ r h => by simp [constableref01_ParseValue.j0] at h
  | k + 1 => by
    have ih0 := constableref01_ParseValue.mono_l k
    · intro y0 y1 y2 y3
      unfold constableref01_ParseValue.j0
      repeat' first
      | (with_reducible exact ih0 _ _ _ _)
      | (with_reducible exact constableref01_Number.mono _ _)
      | (with_reducible exact constableref01_Quoted.mono _ _)
      | (with_reducible exact constableref01_Value.mono _ _ _ _)
      | (with_reducible exact constableref01_ValueText.mono _ _ _ _)
      | (with_reducible exact LeO.refl _)
      | (with_reducible exact LeO.none _)
      | (with_reducible refine LeO.ite ?_ ?_)
      | (with_reducible refine LeO.bind ?_ (fun _ => ?_))
      | exact ih0 _ _ _ _
      | exact constableref01_Number.mono _ _
      | exact constableref01_Quoted.mono _ _
      | exact constableref01_Value.mono _ _ _ _
      | exact constableref01_ValueText.mono _ _ _ _
      | exact LeO.none _
      | refine LeO.ite ?_ ?_
      | refine LeO.bind ?_ (fun _ => ?_)
theorem constableref01_ParseValue.mono : ∀ a0 k, LeO (constableref01_ParseValue.f k a0) (constableref01_ParseValue.f (k + 1) a0) := by
  intro a0 k
  have ih0 := constableref01_ParseValue.mono_l k
  unfold constableref01_ParseValue.f
  repeat' first
      | (with_reducible exact ih0 _ _ _ _)
      | (with_reducible exact constableref01_Number.mono _ _)
      | (with_reducible exact constableref01_Quoted.mono _ _)
      | (with_reducible exact constableref01_Value.mono _ _ _ _)
      | (with_reducible exact constableref01_ValueText.mono _ _ _ _)
      | (with_reducible exact LeO.refl _)
      | (with_reducible exact LeO.none _)
      | (with_reducible refine LeO.ite ?_ ?_)
      | (with_reducible refine LeO.bind ?_ (fun _ => ?_))
      | exact ih0 _ _ _ _
      | exact constableref01_Number.mono _ _
      | exact constableref01_Quoted.mono _ _
      | exact constableref01_Value.mono _ _ _ _
      | exact constableref01_ValueText.mono _ _ _ _
      | exact LeO.none _
      | refine LeO.ite ?_ ?_
      | refine LeO.bind ?_ (fun _ => ?_)
set_option maxHeartbeats 8000000 in
set_option maxRecDepth 100000 in
theorem constableref01_ParseValue.calls (k : Nat) (a0 : ByteArray) (r1 : Int) (r2 : Int) (r3 : ByteArray) (r4 : Bool) (w : World) (h : constableref01_ParseValue.f k a0 = some (r1, r2, r3, r4)) :
    Calls Tryd.prog 28 #[.string a0] w fun e w' => e = .returned (.tuple #[.agg #[.int .i64 r1, .int .i64 r2, .string r3], .bool r4]) ∧ Below w.heap.size w w' := by
  have hu44 := Tryd.underlying44
  have HB := Aside0.mk (Below.refl w.heap.size w)
  have H : ((constableref01_Number.f k a0).bind fun bt357 => (if bt357.2 = true then (constableref01_ParseValue.j0 k a0 1 bt357.1 (⟨#[]⟩ : ByteArray)) else ((constableref01_Quoted.f k a0).bind fun bt359 => (if bt359.2 = true then (constableref01_ParseValue.j0 k a0 3 0 bt359.1) else (constableref01_ParseValue.j0 k a0 2 0 a0))))) = some (r1, r2, r3, r4) := h
  clear h
  replace H := Option.bind_eq_some_iff.mp H
  obtain ⟨⟨t357, t358⟩, A20, H⟩ := H
  replace H : (if t358 = true then (constableref01_ParseValue.j0 k a0 1 t357 (⟨#[]⟩ : ByteArray)) else ((constableref01_Quoted.f k a0).bind fun bt359 => (if bt359.2 = true then (constableref01_ParseValue.j0 k a0 3 0 bt359.1) else (constableref01_ParseValue.j0 k a0 2 0 a0)))) = some (r1, r2, r3, r4) := H
  have A2 := Aside0.mk A20
  clear A20
  have HC3 := Aside0.mk H
  clear H
  go_enter Tryd.func28, Tryd.ntmps28
  go_upto_if 15 with (first | ((with_reducible refine gate_dst (N := 2) rfl ?_); refine box_event ?hg (N := 2) ?hd (cs := #[.int .i64 0, .int .i64 0, .string (⟨#[]⟩ : ByteArray)]) (t := 44) ?hr ?_; (case hd => rfl); (case hg => rfl); (case hr => first | (go_simp; done) | (go_simp; rfl)); intro gb355 hg w4 hbox hb; have n0_ := bs_ (be_ HB) hb; have n1_ := Aside0.mk (hbox); have n2_ := gs_ hg (be_ HB); have n3_ := gs_ hg (be_ HB); clear HB; have HB := n0_; have BK355 := n1_; have GW355 := n2_; have GE355 := n3_; clear n0_ n1_ n2_ n3_; clear hb hbox hg) | ((with_reducible refine gate_dst (N := 4) rfl ?_); refine box_event ?hg (N := 4) ?hd (cs := #[.int .i64 0, .int .i64 0, .string (⟨#[]⟩ : ByteArray)]) (t := 44) ?hr ?_; (case hd => rfl); (case hg => rfl); (case hr => first | (go_simp; done) | (go_simp; rfl)); intro gb356 hg w5 hbox hb; have n0_ := bb_ (bu_ BK355) hb; have n1_ := bs_ (be_ HB) hb; have n2_ := Aside0.mk (hbox); have n3_ := gs_ hg (be_ HB); have n4_ := gs_ hg (be_ HB); have n5_ := nl_ hg (bu_ BK355); have n6_ := ng_ hg (bu_ BK355); clear BK355; clear HB; have BK355 := n0_; have HB := n1_; have BK356 := n2_; have GW356 := n3_; have GE356 := n4_; have NB355_356 := n5_; have NB356_355 := n6_; clear n0_ n1_ n2_ n3_ n4_ n5_ n6_; clear hb hbox hg; have hnb6 := NB356_355.out; have hnc6 := NB355_356.out; have hcz7_0 : w5.cell? ⟨gb356, 0, none⟩ = some (.int .i64 0) := (blk_cell BK356.out 0).trans rfl; have hcz7_1 : w5.cell? ⟨gb356, 1, none⟩ = some (.int .i64 0) := (blk_cell BK356.out 1).trans rfl; have hcz7_2 : w5.cell? ⟨gb356, 2, none⟩ = some (.string (⟨#[]⟩ : ByteArray)) := (blk_cell BK356.out 2).trans rfl; have hfz7_0 := blk_frozen BK356.out 0; have hfz7_1 := blk_frozen BK356.out 1; have hfz7_2 := blk_frozen BK356.out 2) | ((with_reducible refine gate_callee (f := 53) rfl ?_); refine goesL_ (some 12) rfl rfl Tryd.func53 (by kernel_rfl) rfl #[.string a0] rfl ga_ ?_; (with_reducible refine (constableref01_Number.calls k a0 t357 t358 _ A2.out).mono ?_); rintro e w' ⟨rfl, ⟨nd, rfl⟩⟩; refine ⟨_, rfl, ?_⟩))
  (try simp only [Act.put, List.setIfInBounds_toArray, List.set_cons_zero, List.set_cons_succ])
  go_cut [] (fun wc => ∃ (kq : Nat) (x357000_2 : Int) (x357001_2 : Int) (x357002_2 : ByteArray), Aside0 (constableref01_ParseValue.j0 kq a0 x357000_2 x357001_2 x357002_2 = some (r1, r2, r3, r4)) ∧ Aside0 (kq ≤ k) ∧ Aside0 (wc.heap[gb355]? = some (.cells #[.int .i64 0, .int .i64 0, .string (⟨#[]⟩ : ByteArray)] 44 (0, 0))) ∧ Aside0 (wc.heap[gb356]? = some (.cells #[.int .i64 x357000_2, .int .i64 x357001_2, .string x357002_2] 44 (0, 0))) ∧ Aside0 (Below w.heap.size w wc))
  case first =>
    have H := HC3.out
    clear HC3
    by_cases c8 : t358 = true
    · subst c8
      have H1 : (constableref01_ParseValue.j0 k a0 1 t357 (⟨#[]⟩ : ByteArray)) = some (r1, r2, r3, r4) := by rw [if_pos rfl] at H; exact H
      clear H
      have H := H1
      clear H1
      have H' := Aside0.mk H
      clear H
      have hnb9 := NB356_355.out
      have hnc9 := NB355_356.out
      have hcz10_0 : w5.cell? ⟨gb356, 0, none⟩ = some (.int .i64 0) := (blk_cell BK356.out 0).trans rfl
      have hcz10_1 : w5.cell? ⟨gb356, 1, none⟩ = some (.int .i64 0) := (blk_cell BK356.out 1).trans rfl
      have hcz10_2 : w5.cell? ⟨gb356, 2, none⟩ = some (.string (⟨#[]⟩ : ByteArray)) := (blk_cell BK356.out 2).trans rfl
      have hfz10_0 := blk_frozen BK356.out 0
      have hfz10_1 := blk_frozen BK356.out 1
      have hfz10_2 := blk_frozen BK356.out 2
      go_wp2
      go_meet
      case rel => exact ⟨_, (1), (t357), ((⟨#[]⟩ : ByteArray)), H', ⟨by first | omega | exact Nat.le_refl _⟩, ⟨by (with_reducible repeat (first | refine blk_drewN ?_ _ | refine blk_drew ?_ | refine blk_alloc ?_ _)); refine blk_far ?_ NB355_356.out _; (with_reducible repeat (first | refine blk_drewN ?_ _ | refine blk_drew ?_ | refine blk_alloc ?_ _)); refine blk_far ?_ NB355_356.out _; (with_reducible repeat (first | refine blk_drewN ?_ _ | refine blk_drew ?_ | refine blk_alloc ?_ _)); refine blk_far ?_ NB355_356.out _; (with_reducible repeat (first | refine blk_drewN ?_ _ | refine blk_drew ?_ | refine blk_alloc ?_ _)); refine blk_far ?_ NB355_356.out _; (with_reducible repeat (first | refine blk_drewN ?_ _ | refine blk_drew ?_ | refine blk_alloc ?_ _)); refine blk_far ?_ NB355_356.out _; (with_reducible repeat (first | refine blk_drewN ?_ _ | refine blk_drew ?_ | refine blk_alloc ?_ _)); refine blk_far ?_ NB355_356.out _; (with_reducible repeat (first | refine blk_drewN ?_ _ | refine blk_drew ?_ | refine blk_alloc ?_ _)); exact BK355.out⟩, ⟨by (with_reducible repeat (first | refine blk_drewN ?_ _ | refine blk_drew ?_ | refine blk_alloc ?_ _)); refine blk_put (cs := #[.int .i64 1, .int .i64 t357, .string (⟨#[]⟩ : ByteArray)]) ?_ 2 _ rfl; (with_reducible repeat (first | refine blk_drewN ?_ _ | refine blk_drew ?_ | refine blk_alloc ?_ _)); refine blk_put (cs := #[.int .i64 1, .int .i64 0, .string (⟨#[]⟩ : ByteArray)]) ?_ 1 _ rfl; (with_reducible repeat (first | refine blk_drewN ?_ _ | refine blk_drew ?_ | refine blk_alloc ?_ _)); refine blk_put (cs := #[.int .i64 0, .int .i64 0, .string (⟨#[]⟩ : ByteArray)]) ?_ 0 _ rfl; (with_reducible repeat (first | refine blk_drewN ?_ _ | refine blk_drew ?_ | refine blk_alloc ?_ _)); refine blk_put (cs := #[.int .i64 0, .int .i64 0, .string (⟨#[]⟩ : ByteArray)]) ?_ 2 _ rfl; (with_reducible repeat (first | refine blk_drewN ?_ _ | refine blk_drew ?_ | refine blk_alloc ?_ _)); refine blk_put (cs := #[.int .i64 0, .int .i64 0, .string (⟨#[]⟩ : ByteArray)]) ?_ 1 _ rfl; (with_reducible repeat (first | refine blk_drewN ?_ _ | refine blk_drew ?_ | refine blk_alloc ?_ _)); refine blk_put (cs := #[.int .i64 0, .int .i64 0, .string (⟨#[]⟩ : ByteArray)]) ?_ 0 _ rfl; (with_reducible repeat (first | refine blk_drewN ?_ _ | refine blk_drew ?_ | refine blk_alloc ?_ _)); exact BK356.out⟩, ⟨by repeat (first | (with_reducible first | exact HB.out | apply below_alloc | apply pw_below_drewN | apply below_drew1 | refine below_set ?_ GE355.out | refine below_set ?_ GE356.out) | exact HB.out)⟩⟩
    · replace c8 := Bool.eq_false_iff.mpr c8
      subst c8
      have H1 : ((constableref01_Quoted.f k a0).bind fun bt359 => (if bt359.2 = true then (constableref01_ParseValue.j0 k a0 3 0 bt359.1) else (constableref01_ParseValue.j0 k a0 2 0 a0))) = some (r1, r2, r3, r4) := by rw [if_neg (show ¬ (false = true) by decide)] at H; exact H
      clear H
      have H := H1
      clear H1
      replace H := Option.bind_eq_some_iff.mp H
      obtain ⟨⟨t359, t360⟩, A110, H⟩ := H
      replace H : (if t360 = true then (constableref01_ParseValue.j0 k a0 3 0 t359) else (constableref01_ParseValue.j0 k a0 2 0 a0)) = some (r1, r2, r3, r4) := H
      have A11 := Aside0.mk A110
      clear A110
      by_cases c12 : t360 = true
      · subst c12
        have H1 : (constableref01_ParseValue.j0 k a0 3 0 t359) = some (r1, r2, r3, r4) := by rw [if_pos rfl] at H; exact H
        clear H
        have H := H1
        clear H1
        have H' := Aside0.mk H
        clear H
        go_wp2_with (first | ((with_reducible refine gate_callee (f := 54) rfl ?_); refine goesL_ (some 20) rfl rfl Tryd.func54 (by kernel_rfl) rfl #[.string a0] rfl ga_ ?_; (with_reducible refine (constableref01_Quoted.calls k a0 t359 true _ A11.out).mono ?_); rintro e w' ⟨rfl, ⟨nd, rfl⟩⟩; refine ⟨_, rfl, ?_⟩; have hnb13 := NB356_355.out; have hnc13 := NB355_356.out; have hcz14_0 : w5.cell? ⟨gb356, 0, none⟩ = some (.int .i64 0) := (blk_cell BK356.out 0).trans rfl; have hcz14_1 : w5.cell? ⟨gb356, 1, none⟩ = some (.int .i64 0) := (blk_cell BK356.out 1).trans rfl; have hcz14_2 : w5.cell? ⟨gb356, 2, none⟩ = some (.string (⟨#[]⟩ : ByteArray)) := (blk_cell BK356.out 2).trans rfl; have hfz14_0 := blk_frozen BK356.out 0; have hfz14_1 := blk_frozen BK356.out 1; have hfz14_2 := blk_frozen BK356.out 2))
        go_meet
        case rel => exact ⟨_, (3), (0), (t359), H', ⟨by first | omega | exact Nat.le_refl _⟩, ⟨by (with_reducible repeat (first | refine blk_drewN ?_ _ | refine blk_drew ?_ | refine blk_alloc ?_ _)); refine blk_far ?_ NB355_356.out _; (with_reducible repeat (first | refine blk_drewN ?_ _ | refine blk_drew ?_ | refine blk_alloc ?_ _)); refine blk_far ?_ NB355_356.out _; (with_reducible repeat (first | refine blk_drewN ?_ _ | refine blk_drew ?_ | refine blk_alloc ?_ _)); refine blk_far ?_ NB355_356.out _; (with_reducible repeat (first | refine blk_drewN ?_ _ | refine blk_drew ?_ | refine blk_alloc ?_ _)); refine blk_far ?_ NB355_356.out _; (with_reducible repeat (first | refine blk_drewN ?_ _ | refine blk_drew ?_ | refine blk_alloc ?_ _)); refine blk_far ?_ NB355_356.out _; (with_reducible repeat (first | refine blk_drewN ?_ _ | refine blk_drew ?_ | refine blk_alloc ?_ _)); refine blk_far ?_ NB355_356.out _; (with_reducible repeat (first | refine blk_drewN ?_ _ | refine blk_drew ?_ | refine blk_alloc ?_ _)); exact BK355.out⟩, ⟨by (with_reducible repeat (first | refine blk_drewN ?_ _ | refine blk_drew ?_ | refine blk_alloc ?_ _)); refine blk_put (cs := #[.int .i64 3, .int .i64 0, .string (⟨#[]⟩ : ByteArray)]) ?_ 2 _ rfl; (with_reducible repeat (first | refine blk_drewN ?_ _ | refine blk_drew ?_ | refine blk_alloc ?_ _)); refine blk_put (cs := #[.int .i64 3, .int .i64 0, .string (⟨#[]⟩ : ByteArray)]) ?_ 1 _ rfl; (with_reducible repeat (first | refine blk_drewN ?_ _ | refine blk_drew ?_ | refine blk_alloc ?_ _)); refine blk_put (cs := #[.int .i64 0, .int .i64 0, .string (⟨#[]⟩ : ByteArray)]) ?_ 0 _ rfl; (with_reducible repeat (first | refine blk_drewN ?_ _ | refine blk_drew ?_ | refine blk_alloc ?_ _)); refine blk_put (cs := #[.int .i64 0, .int .i64 0, .string (⟨#[]⟩ : ByteArray)]) ?_ 2 _ rfl; (with_reducible repeat (first | refine blk_drewN ?_ _ | refine blk_drew ?_ | refine blk_alloc ?_ _)); refine blk_put (cs := #[.int .i64 0, .int .i64 0, .string (⟨#[]⟩ : ByteArray)]) ?_ 1 _ rfl; (with_reducible repeat (first | refine blk_drewN ?_ _ | refine blk_drew ?_ | refine blk_alloc ?_ _)); refine blk_put (cs := #[.int .i64 0, .int .i64 0, .string (⟨#[]⟩ : ByteArray)]) ?_ 0 _ rfl; (with_reducible repeat (first | refine blk_drewN ?_ _ | refine blk_drew ?_ | refine blk_alloc ?_ _)); exact BK356.out⟩, ⟨by repeat (first | (with_reducible first | exact HB.out | apply below_alloc | apply pw_below_drewN | apply below_drew1 | refine below_set ?_ GE355.out | refine below_set ?_ GE356.out) | exact HB.out)⟩⟩
      · replace c12 := Bool.eq_false_iff.mpr c12
        subst c12
        have H1 : (constableref01_ParseValue.j0 k a0 2 0 a0) = some (r1, r2, r3, r4) := by rw [if_neg (show ¬ (false = true) by decide)] at H; exact H
        clear H
        have H := H1
        clear H1
        have H' := Aside0.mk H
        clear H
        go_wp2_with (first | ((with_reducible refine gate_callee (f := 54) rfl ?_); refine goesL_ (some 20) rfl rfl Tryd.func54 (by kernel_rfl) rfl #[.string a0] rfl ga_ ?_; (with_reducible refine (constableref01_Quoted.calls k a0 t359 false _ A11.out).mono ?_); rintro e w' ⟨rfl, ⟨nd, rfl⟩⟩; refine ⟨_, rfl, ?_⟩; have hnb15 := NB356_355.out; have hnc15 := NB355_356.out; have hcz16_0 : w5.cell? ⟨gb356, 0, none⟩ = some (.int .i64 0) := (blk_cell BK356.out 0).trans rfl; have hcz16_1 : w5.cell? ⟨gb356, 1, none⟩ = some (.int .i64 0) := (blk_cell BK356.out 1).trans rfl; have hcz16_2 : w5.cell? ⟨gb356, 2, none⟩ = some (.string (⟨#[]⟩ : ByteArray)) := (blk_cell BK356.out 2).trans rfl; have hfz16_0 := blk_frozen BK356.out 0; have hfz16_1 := blk_frozen BK356.out 1; have hfz16_2 := blk_frozen BK356.out 2))
        go_meet
        case rel => exact ⟨_, (2), (0), (a0), H', ⟨by first | omega | exact Nat.le_refl _⟩, ⟨by (with_reducible repeat (first | refine blk_drewN ?_ _ | refine blk_drew ?_ | refine blk_alloc ?_ _)); refine blk_far ?_ NB355_356.out _; (with_reducible repeat (first | refine blk_drewN ?_ _ | refine blk_drew ?_ | refine blk_alloc ?_ _)); refine blk_far ?_ NB355_356.out _; (with_reducible repeat (first | refine blk_drewN ?_ _ | refine blk_drew ?_ | refine blk_alloc ?_ _)); refine blk_far ?_ NB355_356.out _; (with_reducible repeat (first | refine blk_drewN ?_ _ | refine blk_drew ?_ | refine blk_alloc ?_ _)); refine blk_far ?_ NB355_356.out _; (with_reducible repeat (first | refine blk_drewN ?_ _ | refine blk_drew ?_ | refine blk_alloc ?_ _)); refine blk_far ?_ NB355_356.out _; (with_reducible repeat (first | refine blk_drewN ?_ _ | refine blk_drew ?_ | refine blk_alloc ?_ _)); refine blk_far ?_ NB355_356.out _; (with_reducible repeat (first | refine blk_drewN ?_ _ | refine blk_drew ?_ | refine blk_alloc ?_ _)); exact BK355.out⟩, ⟨by (with_reducible repeat (first | refine blk_drewN ?_ _ | refine blk_drew ?_ | refine blk_alloc ?_ _)); refine blk_put (cs := #[.int .i64 2, .int .i64 0, .string (⟨#[]⟩ : ByteArray)]) ?_ 2 _ rfl; (with_reducible repeat (first | refine blk_drewN ?_ _ | refine blk_drew ?_ | refine blk_alloc ?_ _)); refine blk_put (cs := #[.int .i64 2, .int .i64 0, .string (⟨#[]⟩ : ByteArray)]) ?_ 1 _ rfl; (with_reducible repeat (first | refine blk_drewN ?_ _ | refine blk_drew ?_ | refine blk_alloc ?_ _)); refine blk_put (cs := #[.int .i64 0, .int .i64 0, .string (⟨#[]⟩ : ByteArray)]) ?_ 0 _ rfl; (with_reducible repeat (first | refine blk_drewN ?_ _ | refine blk_drew ?_ | refine blk_alloc ?_ _)); refine blk_put (cs := #[.int .i64 0, .int .i64 0, .string (⟨#[]⟩ : ByteArray)]) ?_ 2 _ rfl; (with_reducible repeat (first | refine blk_drewN ?_ _ | refine blk_drew ?_ | refine blk_alloc ?_ _)); refine blk_put (cs := #[.int .i64 0, .int .i64 0, .string (⟨#[]⟩ : ByteArray)]) ?_ 1 _ rfl; (with_reducible repeat (first | refine blk_drewN ?_ _ | refine blk_drew ?_ | refine blk_alloc ?_ _)); refine blk_put (cs := #[.int .i64 0, .int .i64 0, .string (⟨#[]⟩ : ByteArray)]) ?_ 0 _ rfl; (with_reducible repeat (first | refine blk_drewN ?_ _ | refine blk_drew ?_ | refine blk_alloc ?_ _)); exact BK356.out⟩, ⟨by repeat (first | (with_reducible first | exact HB.out | apply below_alloc | apply pw_below_drewN | apply below_drew1 | refine below_set ?_ GE355.out | refine below_set ?_ GE356.out) | exact HB.out)⟩⟩
  case rest =>
    clear HC3
    try clear c1
    try clear c2
    try clear p2
    try clear c5
    try clear c6
    try clear c8
    try clear c9
    try clear c12
    try clear c13
    try clear c15
    try clear hcz10_0
    try clear hcz10_1
    try clear hcz10_2
    try clear hcz14_0
    try clear hcz14_1
    try clear hcz14_2
    try clear hcz16_0
    try clear hcz16_1
    try clear hcz16_2
    try clear hcz7_0
    try clear hcz7_1
    try clear hcz7_2
    try clear hfz10_0
    try clear hfz10_1
    try clear hfz10_2
    try clear hfz14_0
    try clear hfz14_1
    try clear hfz14_2
    try clear hfz16_0
    try clear hfz16_1
    try clear hfz16_2
    try clear hfz7_0
    try clear hfz7_1
    try clear hfz7_2
    obtain ⟨kq, x357000_2, x357001_2, x357002_2, HA, HJ2, BK355, BK356, HB⟩ := hcut
    cases kq with
    | zero => exact absurd HA.out (by simp [constableref01_ParseValue.j0])
    | succ kj2 =>
      have H := HA.out
      clear HA
      simp only [constableref01_ParseValue.j0] at H
      replace H := Option.bind_eq_some_iff.mp H
      obtain ⟨t361, A170, H⟩ := H
      replace H : (if t361 = true then ((constableref01_ValueText.f kj2 x357000_2 x357001_2 x357002_2).bind fun t362 => (if t362.toList = a0.toList then (some (x357000_2, x357001_2, x357002_2, true)) else (some (0, 0, (⟨#[]⟩ : ByteArray), false)))) else (some (0, 0, (⟨#[]⟩ : ByteArray), false))) = some (r1, r2, r3, r4) := H
      have A17 := Aside0.mk A170
      clear A170
      by_cases c18 : t361 = true
      · subst c18
        have H1 : ((constableref01_ValueText.f kj2 x357000_2 x357001_2 x357002_2).bind fun t362 => (if t362.toList = a0.toList then (some (x357000_2, x357001_2, x357002_2, true)) else (some (0, 0, (⟨#[]⟩ : ByteArray), false)))) = some (r1, r2, r3, r4) := by rw [if_pos rfl] at H; exact H
        clear H
        have H := H1
        clear H1
        replace H := Option.bind_eq_some_iff.mp H
        obtain ⟨t362, A190, H⟩ := H
        replace H : (if t362.toList = a0.toList then (some (x357000_2, x357001_2, x357002_2, true)) else (some (0, 0, (⟨#[]⟩ : ByteArray), false))) = some (r1, r2, r3, r4) := H
        have A19 := Aside0.mk A190
        clear A190
        by_cases c20 : t362.toList = a0.toList
        · rw [if_pos c20] at H
          obtain ⟨c20b0, c20b1⟩ := eqB_ c20
          clear c20
          simp only [Option.some.injEq, Prod.mk.injEq] at H
          obtain ⟨rfl, rfl, rfl, rfl⟩ := H
          have hnb21 := NB356_355.out
          have hnc21 := NB355_356.out
          have hcz22_0 : wc.cell? ⟨gb356, 0, none⟩ = some (.int .i64 x357000_2) := (blk_cell BK356.out 0).trans rfl
          have hcz22_1 : wc.cell? ⟨gb356, 1, none⟩ = some (.int .i64 x357001_2) := (blk_cell BK356.out 1).trans rfl
          have hcz22_2 : wc.cell? ⟨gb356, 2, none⟩ = some (.string x357002_2) := (blk_cell BK356.out 2).trans rfl
          have hfz22_0 := blk_frozen BK356.out 0
          have hfz22_1 := blk_frozen BK356.out 1
          have hfz22_2 := blk_frozen BK356.out 2
          go_wp2_with (first | ((with_reducible refine gate_callee (f := 31) rfl ?_); refine goesL_ (some 29) rfl rfl Tryd.func31 (by kernel_rfl) rfl #[.agg #[.int .i64 x357000_2, .int .i64 x357001_2, .string x357002_2]] rfl ga_ ?_; (with_reducible refine (constableref01_Value.calls kj2 x357000_2 x357001_2 x357002_2 true _ A17.out).mono ?_); rintro e w23 ⟨rfl, hb⟩; refine ⟨_, rfl, ?_⟩; have n0_ := bb_ (bu_ BK355) hb; have n1_ := bb_ (bu_ BK356) hb; have n2_ := bs_ (be_ HB) hb; clear BK355; clear BK356; clear HB; have BK355 := n0_; have BK356 := n1_; have HB := n2_; clear n0_ n1_ n2_; (try clear hb); (try clear hb2); (try clear hk); (try clear hi); have hcz24_0 : w23.cell? ⟨gb356, 0, none⟩ = some (.int .i64 x357000_2) := (blk_cell BK356.out 0).trans rfl; have hcz24_1 : w23.cell? ⟨gb356, 1, none⟩ = some (.int .i64 x357001_2) := (blk_cell BK356.out 1).trans rfl; have hcz24_2 : w23.cell? ⟨gb356, 2, none⟩ = some (.string x357002_2) := (blk_cell BK356.out 2).trans rfl; have hfz24_0 := blk_frozen BK356.out 0; have hfz24_1 := blk_frozen BK356.out 1; have hfz24_2 := blk_frozen BK356.out 2) | (go_at_call 34; (with_reducible refine (constableref01_ValueText.calls kj2 x357000_2 x357001_2 x357002_2 t362 _ A19.out).mono ?_); rintro e w25 ⟨rfl, hb⟩; have n0_ := bb_ (bu_ BK355) hb; have n1_ := bb_ (bu_ BK356) hb; have n2_ := bs_ (be_ HB) hb; clear BK355; clear BK356; clear HB; have BK355 := n0_; have BK356 := n1_; have HB := n2_; clear n0_ n1_ n2_; (try clear hcz24_0 hcz24_1 hcz24_2 hfz24_0 hfz24_1 hfz24_2); (try clear hb); (try clear hb2); (try clear hk); (try clear hi); have hcz26_0 : w25.cell? ⟨gb356, 0, none⟩ = some (.int .i64 x357000_2) := (blk_cell BK356.out 0).trans rfl; have hcz26_1 : w25.cell? ⟨gb356, 1, none⟩ = some (.int .i64 x357001_2) := (blk_cell BK356.out 1).trans rfl; have hcz26_2 : w25.cell? ⟨gb356, 2, none⟩ = some (.string x357002_2) := (blk_cell BK356.out 2).trans rfl; have hfz26_0 := blk_frozen BK356.out 0; have hfz26_1 := blk_frozen BK356.out 1; have hfz26_2 := blk_frozen BK356.out 2; have hcz27_0 : w25.cell? ⟨gb355, 0, none⟩ = some (.int .i64 0) := (blk_cell BK355.out 0).trans rfl; have hcz27_1 : w25.cell? ⟨gb355, 1, none⟩ = some (.int .i64 0) := (blk_cell BK355.out 1).trans rfl; have hcz27_2 : w25.cell? ⟨gb355, 2, none⟩ = some (.string (⟨#[]⟩ : ByteArray)) := (blk_cell BK355.out 2).trans rfl; have hfz27_0 := blk_frozen BK355.out 0; have hfz27_1 := blk_frozen BK355.out 1; have hfz27_2 := blk_frozen BK355.out 2))
          refine bodyPost_ret (results_ct rfl _ _ gb355 44 #[.int .i64 x357000_2, .int .i64 x357001_2, .string x357002_2] (0, 0) _ rfl (bp_ BK355) Tryd.underlying44 rfl (by kernel_rfl)) rfl ?_
          exact ⟨by first | rfl | (simp [errW_none, errW_some] <;> rfl) | (simp [*, errW_none, errW_some] <;> rfl), by repeat (first | (with_reducible first | exact HB.out | apply below_alloc | apply pw_below_drewN | apply below_drew1 | refine below_set ?_ GE355.out | refine below_set ?_ GE356.out) | exact HB.out)⟩
        · rw [if_neg c20] at H
          obtain ⟨c20b0, c20b1⟩ := neB_ c20
          simp only [Option.some.injEq, Prod.mk.injEq] at H
          obtain ⟨rfl, rfl, rfl, rfl⟩ := H
          have hnb28 := NB356_355.out
          have hnc28 := NB355_356.out
          have hcz29_0 : wc.cell? ⟨gb356, 0, none⟩ = some (.int .i64 x357000_2) := (blk_cell BK356.out 0).trans rfl
          have hcz29_1 : wc.cell? ⟨gb356, 1, none⟩ = some (.int .i64 x357001_2) := (blk_cell BK356.out 1).trans rfl
          have hcz29_2 : wc.cell? ⟨gb356, 2, none⟩ = some (.string x357002_2) := (blk_cell BK356.out 2).trans rfl
          have hfz29_0 := blk_frozen BK356.out 0
          have hfz29_1 := blk_frozen BK356.out 1
          have hfz29_2 := blk_frozen BK356.out 2
          go_wp2_with (first | ((with_reducible refine gate_callee (f := 31) rfl ?_); refine goesL_ (some 29) rfl rfl Tryd.func31 (by kernel_rfl) rfl #[.agg #[.int .i64 x357000_2, .int .i64 x357001_2, .string x357002_2]] rfl ga_ ?_; (with_reducible refine (constableref01_Value.calls kj2 x357000_2 x357001_2 x357002_2 true _ A17.out).mono ?_); rintro e w30 ⟨rfl, hb⟩; refine ⟨_, rfl, ?_⟩; have n0_ := bb_ (bu_ BK355) hb; have n1_ := bb_ (bu_ BK356) hb; have n2_ := bs_ (be_ HB) hb; clear BK355; clear BK356; clear HB; have BK355 := n0_; have BK356 := n1_; have HB := n2_; clear n0_ n1_ n2_; (try clear hb); (try clear hb2); (try clear hk); (try clear hi); have hcz31_0 : w30.cell? ⟨gb356, 0, none⟩ = some (.int .i64 x357000_2) := (blk_cell BK356.out 0).trans rfl; have hcz31_1 : w30.cell? ⟨gb356, 1, none⟩ = some (.int .i64 x357001_2) := (blk_cell BK356.out 1).trans rfl; have hcz31_2 : w30.cell? ⟨gb356, 2, none⟩ = some (.string x357002_2) := (blk_cell BK356.out 2).trans rfl; have hfz31_0 := blk_frozen BK356.out 0; have hfz31_1 := blk_frozen BK356.out 1; have hfz31_2 := blk_frozen BK356.out 2) | (go_at_call 34; (with_reducible refine (constableref01_ValueText.calls kj2 x357000_2 x357001_2 x357002_2 t362 _ A19.out).mono ?_); rintro e w32 ⟨rfl, hb⟩; have n0_ := bb_ (bu_ BK355) hb; have n1_ := bb_ (bu_ BK356) hb; have n2_ := bs_ (be_ HB) hb; clear BK355; clear BK356; clear HB; have BK355 := n0_; have BK356 := n1_; have HB := n2_; clear n0_ n1_ n2_; (try clear hcz31_0 hcz31_1 hcz31_2 hfz31_0 hfz31_1 hfz31_2); (try clear hb); (try clear hb2); (try clear hk); (try clear hi); have hcz33_0 : w32.cell? ⟨gb355, 0, none⟩ = some (.int .i64 0) := (blk_cell BK355.out 0).trans rfl; have hcz33_1 : w32.cell? ⟨gb355, 1, none⟩ = some (.int .i64 0) := (blk_cell BK355.out 1).trans rfl; have hcz33_2 : w32.cell? ⟨gb355, 2, none⟩ = some (.string (⟨#[]⟩ : ByteArray)) := (blk_cell BK355.out 2).trans rfl; have hfz33_0 := blk_frozen BK355.out 0; have hfz33_1 := blk_frozen BK355.out 1; have hfz33_2 := blk_frozen BK355.out 2))
          refine bodyPost_ret (results_ct rfl _ _ gb355 44 #[.int .i64 0, .int .i64 0, .string (⟨#[]⟩ : ByteArray)] (0, 0) _ rfl (bp_ BK355) Tryd.underlying44 rfl (by kernel_rfl)) rfl ?_
          exact ⟨by first | rfl | (simp [errW_none, errW_some] <;> rfl) | (simp [*, errW_none, errW_some] <;> rfl), by repeat (first | (with_reducible first | exact HB.out | apply below_alloc | apply pw_below_drewN | apply below_drew1 | refine below_set ?_ GE355.out | refine below_set ?_ GE356.out) | exact HB.out)⟩
      · replace c18 := Bool.eq_false_iff.mpr c18
        subst c18
        have H1 : (some (0, 0, (⟨#[]⟩ : ByteArray), false)) = some (r1, r2, r3, r4) := by rw [if_neg (show ¬ (false = true) by decide)] at H; exact H
        clear H
        have H := H1
        clear H1
        simp only [Option.some.injEq, Prod.mk.injEq] at H
        obtain ⟨rfl, rfl, rfl, rfl⟩ := H
        have hnb34 := NB356_355.out
        have hnc34 := NB355_356.out
        have hcz35_0 : wc.cell? ⟨gb356, 0, none⟩ = some (.int .i64 x357000_2) := (blk_cell BK356.out 0).trans rfl
        have hcz35_1 : wc.cell? ⟨gb356, 1, none⟩ = some (.int .i64 x357001_2) := (blk_cell BK356.out 1).trans rfl
        have hcz35_2 : wc.cell? ⟨gb356, 2, none⟩ = some (.string x357002_2) := (blk_cell BK356.out 2).trans rfl
        have hfz35_0 := blk_frozen BK356.out 0
        have hfz35_1 := blk_frozen BK356.out 1
        have hfz35_2 := blk_frozen BK356.out 2
        go_wp2_with (first | ((with_reducible refine gate_callee (f := 31) rfl ?_); refine goesL_ (some 29) rfl rfl Tryd.func31 (by kernel_rfl) rfl #[.agg #[.int .i64 x357000_2, .int .i64 x357001_2, .string x357002_2]] rfl ga_ ?_; (with_reducible refine (constableref01_Value.calls kj2 x357000_2 x357001_2 x357002_2 false _ A17.out).mono ?_); rintro e w36 ⟨rfl, hb⟩; refine ⟨_, rfl, ?_⟩; have n0_ := bb_ (bu_ BK355) hb; have n1_ := bb_ (bu_ BK356) hb; have n2_ := bs_ (be_ HB) hb; clear BK355; clear BK356; clear HB; have BK355 := n0_; have BK356 := n1_; have HB := n2_; clear n0_ n1_ n2_; (try clear hb); (try clear hb2); (try clear hk); (try clear hi); have hcz37_0 : w36.cell? ⟨gb355, 0, none⟩ = some (.int .i64 0) := (blk_cell BK355.out 0).trans rfl; have hcz37_1 : w36.cell? ⟨gb355, 1, none⟩ = some (.int .i64 0) := (blk_cell BK355.out 1).trans rfl; have hcz37_2 : w36.cell? ⟨gb355, 2, none⟩ = some (.string (⟨#[]⟩ : ByteArray)) := (blk_cell BK355.out 2).trans rfl; have hfz37_0 := blk_frozen BK355.out 0; have hfz37_1 := blk_frozen BK355.out 1; have hfz37_2 := blk_frozen BK355.out 2))
        refine bodyPost_ret (results_ct rfl _ _ gb355 44 #[.int .i64 0, .int .i64 0, .string (⟨#[]⟩ : ByteArray)] (0, 0) _ rfl (bp_ BK355) Tryd.underlying44 rfl (by kernel_rfl)) rfl ?_
        exact ⟨by first | rfl | (simp [errW_none, errW_some] <;> rfl) | (simp [*, errW_none, errW_some] <;> rfl), by repeat (first | (with_reducible first | exact HB.out | apply below_alloc | apply pw_below_drewN | apply below_drew1 | refine below_set ?_ GE355.out | refine below_set ?_ GE356.out) | exact HB.out)⟩
end Go.Proofs.YtaopajmpifenoaaDoor.P
end
section
namespace Go.Proofs.YtaopajmpifenoaaDoor.P
open Go.RowKit Go.Proofs.YtaopajmpifenoaaDoorW.PrintWords Go.Proofs.YtaopajmpifenoaaDoorW.PrintLast Go.Proofs.YtaopajmpifenoaaDoorW.PrintMore
def cmpS : List Int → List Int → Int
  | [], [] => 0
  | [], _ :: _ => -1
  | _ :: _, [] => 1
  | x :: a, y :: b => if x = y then cmpS a b else if x < y then -1 else 1
theorem ref_order_eq (a b : Int) : constableref01_order.f a b = some (if a < b then -1 else if a > b then 1 else 0) := by
  unfold constableref01_order.f
  split
  · rfl
  · split <;> rfl
theorem ref_Strings_ev (a b : ByteArray) (ha : a.size ≤ maxLen) (hb : b.size ≤ maxLen) : Ev (fun k => constableref01_Strings.f k a b) (cmpS (bytesOf a) (bytesOf b)) := by
  unfold maxLen at ha hb
  have h : ∀ (d i : Nat), i + d = a.size → i ≤ b.size → Ev (fun k => constableref01_Strings.l0 k a b i) (cmpS ((bytesOf a).drop i) ((bytesOf b).drop i)) := by
    intro d
    induction d with
    | zero =>
      intro i hi hib
      refine evShift ?_
      simp only [constableref01_Strings.l0]
      refine evNeg (by omega) (evShift ?_)
      simp only [constableref01_Strings.j1, Bool.false_eq_true, if_false, ref_order_eq, Option.bind_some]
      refine evSome ?_
      rw [List.drop_of_length_le (by rw [len_codes]; omega)]
      by_cases h2 : i < b.size
      · obtain ⟨y, hy, _⟩ := codes_split b i h2
        rw [hy]
        simp only [cmpS]
        rw [if_pos (by omega)]
      · rw [List.drop_of_length_le (by rw [len_codes]; omega)]
        simp only [cmpS]
        rw [if_neg (by omega), if_neg (by omega)]
    | succ d ih =>
      intro i hi hib
      have hlt : i < a.size := by omega
      obtain ⟨x, hx, ex⟩ := codes_split a i hlt
      refine evShift ?_
      simp only [constableref01_Strings.l0]
      refine evPos (by omega) (evShift ?_)
      simp only [constableref01_Strings.j1]
      by_cases h2 : i < b.size
      · obtain ⟨y, hy, ey⟩ := codes_split b i h2
        rw [hx, hy, ex, ey]
        simp only [cmpS]
        refine evPos (by rw [decide_eq_true_eq]; omega) (evPos (by omega) (evPos (by omega) (evPos (by omega) ?_)))
        have r1 := bt_range a i
        have r2 := bt_range b i
        have w1 : wrap64 x = x := by unfold wrap64; omega
        have w2 : wrap64 y = y := by unfold wrap64; omega
        rw [w1, w2]
        refine evIf (fun e => ?_) (fun e => ?_)
        · rw [if_pos e, wrap_succ hlt (by omega)]
          exact ih (i + 1) (by omega) (by omega)
        · rw [if_neg e]
          simp only [ref_order_eq, Option.bind_some]
          refine evSome ?_
          by_cases h3 : x < y
          · rw [if_pos h3, if_pos h3]
          · rw [if_neg h3, if_neg h3, if_pos (by omega)]
      · refine evNeg (by rw [decide_eq_true_eq]; omega) ?_
        simp only [ref_order_eq, Option.bind_some]
        refine evSome ?_
        rw [hx, List.drop_of_length_le (l := bytesOf b) (by rw [len_codes]; omega)]
        simp only [cmpS]
        rw [if_neg (by omega), if_pos (by omega)]
  have h0 := h a.size 0 (by omega) (by omega)
  simpa [constableref01_Strings.f] using h0
theorem less_cmp : ∀ a b : List UInt8, Op.bytesLess a b = decide (cmpS (a.map fun c => ((c.toNat : Nat) : Int)) (b.map fun c => ((c.toNat : Nat) : Int)) < 0)
  | [], [] => rfl
  | [], _ :: _ => rfl
  | _ :: _, [] => rfl
  | x :: a, y :: b => by
    simp only [Op.bytesLess, List.map_cons, cmpS]
    by_cases e : x = y
    · subst e
      simp only [if_true]
      rw [← less_cmp a b]; simp
    · have h1 : ¬ ((x.toNat : Nat) : Int) = ((y.toNat : Nat) : Int) := fun h => e (UInt8.toNat_inj.1 (by omega))
      have h2 : (x == y) = false := beq_eq_false_iff_ne.mpr e
      rw [if_neg h1, h2, Bool.false_and, Bool.or_false]
      by_cases h3 : x < y
      · have h4 : ((x.toNat : Nat) : Int) < ((y.toNat : Nat) : Int) := by have := UInt8.lt_iff_toNat_lt.1 h3; omega
        rw [if_pos h4, decide_eq_true h3]; rfl
      · have h4 : ¬ ((x.toNat : Nat) : Int) < ((y.toNat : Nat) : Int) := fun h => h3 (UInt8.lt_iff_toNat_lt.2 (by omega))
        rw [if_neg h4, decide_eq_false h3]; rfl
theorem less_codes (s t : ByteArray) : Op.bytesLess s.toList t.toList = decide (cmpS (bytesOf s) (bytesOf t) < 0) := by
  rw [tl_data, tl_data]; exact less_cmp _ _
end Go.Proofs.YtaopajmpifenoaaDoor.P
end
section
namespace Go.Proofs.YtaopajmpifenoaaDoor.P
open Go.RowKit Go.Proofs.YtaopajmpifenoaaDoorW.PrintWords Go.Proofs.YtaopajmpifenoaaDoorW.PrintLast Go.Proofs.YtaopajmpifenoaaDoorW.PrintMore
theorem cmpS_cb : ∀ a b : List UInt8, cmpS (a.map fun c => ((c.toNat : Nat) : Int)) (b.map fun c => ((c.toNat : Nat) : Int)) = Lib.compareBytes a b
  | [], [] => rfl
  | [], _ :: _ => rfl
  | _ :: _, [] => rfl
  | x :: a, y :: b => by
    rw [cb_cons, ← cmpS_cb a b]
    simp only [List.map_cons, cmpS, lexI]
    by_cases e : ((x.toNat : Nat) : Int) = ((y.toNat : Nat) : Int)
    · rw [if_pos e, if_pos ((cmpI_zero _ _).2 e)]
    · rw [if_neg e, if_neg (fun h => e ((cmpI_zero _ _).1 h))]
      unfold cmpI
      split
      · rfl
      · rw [if_pos (by omega)]
theorem ref_order_cmp (a b : Int) : constableref01_order.f a b = some (cmpI a b) := ref_order_eq a b
theorem ref_Values_ev (v w : S44) (hv : v.f2.size ≤ maxLen) (hw : w.f2.size ≤ maxLen) : Ev (fun k => constableref01_Values.f k v.f0 v.f1 v.f2 w.f0 w.f1 w.f2) (cmpV v w) := by
  unfold constableref01_Values.f cmpV
  simp only [ref_order_cmp, Option.bind_some]
  refine evIf (fun h1 => ?_) (fun h1 => evSome (by rw [if_neg h1]))
  rw [if_pos h1]
  refine evIf (fun h2 => ?_) (fun h2 => evSome (by rw [if_neg h2]))
  rw [if_pos h2]
  have := ref_Strings_ev v.f2 w.f2 hv hw
  have e : cmpS (bytesOf v.f2) (bytesOf w.f2) = cmpB v.f2 w.f2 := cmpS_cb _ _
  rw [e] at this
  exact Ev.bind this (evSome rfl)
def decC (u : Nat) : List Int := (Lib.decDigits u).map fun b => ((b.toNat : Nat) : Int)
theorem decC_small {u : Nat} (h : u < 10) : decC u = [48 + (u : Int)] := by
  unfold decC
  rw [Lib.decDigits, dif_pos h]
  simp only [List.map_cons, List.map_nil, dig_nat h]
  congr 1
theorem decC_big {u : Nat} (h : ¬ u < 10) : decC u = decC (u / 10) ++ [48 + ((u % 10 : Nat) : Int)] := by
  unfold decC
  rw [Lib.decDigits, dif_neg h]
  simp only [List.map_append, List.map_cons, List.map_nil, dig_nat (show u % 10 < 10 by omega)]
  congr 1
theorem nums_dec (u : Nat) : strOfNums (decC u) = ⟨(Lib.decDigits u).toArray⟩ := by
  apply codes_inj
  rw [codes_of_nums (by
    intro c hc
    unfold decC at hc
    obtain ⟨b, _, rfl⟩ := List.mem_map.1 hc
    have := b.toNat_lt
    omega)]
  rfl
theorem dig_exit (X : List Int) (h : X ≠ []) : Ev (fun k => constableref01_Digits.l0 k 0 (strOfNums X)) (strOfNums X) := by
  refine evShift ?_
  simp only [constableref01_Digits.l0, nums_size]
  have : X.length ≠ 0 := fun e => h (List.length_eq_zero_iff.1 e)
  exact evNeg (by decide) (evNeg (by omega) (evSome rfl))
theorem dig_step (u : Nat) (hu : u ≤ 4611686018427387904) : (wrap64 (48 + (Int.tmod (u : Int) 10))) % 256 = 48 + ((u % 10 : Nat) : Int) ∧ wrap64 (Int.tdiv (u : Int) 10) = ((u / 10 : Nat) : Int) := by
  rw [Int.tmod_eq_emod_of_nonneg (by omega), Int.tdiv_eq_ediv_of_nonneg (by omega)]
  unfold wrap64
  omega
theorem dig_l0 : ∀ (m u : Nat) (X : List Int), u < 10 ^ m → u ≤ 4611686018427387904 → X.length + m ≤ 1000 → 0 < u → Ev (fun k => constableref01_Digits.l0 k u (strOfNums X)) (strOfNums (decC u ++ X)) := by
  intro m
  induction m with
  | zero => intro u X h _ _ h0; simp at h; omega
  | succ m ih =>
    intro u X h hu hX h0
    obtain ⟨e1, e2⟩ := dig_step u hu
    refine evShift ?_
    simp only [constableref01_Digits.l0, e1, e2, Option.bind_some, nums_size, nums_append]
    refine evPos (by omega) (evPos (by simp; omega) ?_)
    by_cases hs : u < 10
    · rw [decC_small hs, show u / 10 = 0 by omega, show u % 10 = u by omega]
      exact dig_exit _ (by simp)
    · rw [decC_big hs]
      have := ih (u / 10) ([48 + ((u % 10 : Nat) : Int)] ++ X) (by rw [Nat.pow_succ] at h; omega) (by omega) (by simp; omega) (by omega)
      rw [← List.append_assoc] at this
      exact this
theorem ref_Digits_nat (u : Nat) (hu : u ≤ 4611686018427387904) : Ev (fun k => constableref01_Digits.l0 k u (⟨#[]⟩ : ByteArray)) ⟨(Lib.decDigits u).toArray⟩ := by
  rw [← nums_dec, show (⟨#[]⟩ : ByteArray) = strOfNums [] from rfl]
  by_cases h0 : u = 0
  · subst h0
    refine evShift ?_
    obtain ⟨e1, e2⟩ := dig_step 0 (by omega)
    simp only [Int.natCast_zero] at e1 e2
    simp only [constableref01_Digits.l0, Int.natCast_zero, e1, e2, Option.bind_some, nums_size, nums_append]
    rw [decC_small (show 0 < 10 by decide)]
    exact evNeg (by decide) (evPos rfl (evPos (by decide) (by simpa using dig_exit [48] (by simp))))
  · have := dig_l0 19 u [] (by omega) hu (by decide) (by omega)
    rw [List.append_nil] at this
    exact this
theorem ref_Digits_ev {n : Int} (h : InB n) : Ev (fun k => constableref01_Digits.f k n) ⟨(Lib.itoa n).toArray⟩ := by
  rw [InB_iff] at h
  have pos : ∀ m : Int, 0 ≤ m → m ≤ 4611686018427387904 → Ev (fun k => constableref01_Digits.f k m) ⟨(Lib.decDigits m.toNat).toArray⟩ := by
    intro m h0 h1
    refine evShift ?_
    simp only [constableref01_Digits.f]
    refine evNeg (by omega) ?_
    have := ref_Digits_nat m.toNat (by omega)
    rw [show ((m.toNat : Nat) : Int) = m by omega] at this
    exact this
  unfold Lib.itoa
  by_cases hn : n < 0
  · rw [if_pos hn]
    refine evShift ?_
    simp only [constableref01_Digits.f]
    have w : wrap64 (-n) = -n := by unfold wrap64; omega
    have := pos (-n) (by omega) (by omega)
    rw [show (-n).toNat = n.natAbs by omega] at this
    rw [w]
    refine evPos hn (Ev.bind this ?_)
    have hl := Lib.itoa_length_le n (by omega) (by omega)
    unfold Lib.itoa at hl
    rw [if_pos hn, List.length_cons] at hl
    refine evPos (by show 1 + (Lib.decDigits n.natAbs).toArray.size ≤ _; rw [List.size_toArray]; omega) (evSome ?_)
    apply ByteArray.ext
    apply Array.toList_inj.1
    rw [ByteArray.data_append, Array.toList_append]
    rfl
  · rw [if_neg hn]
    exact pos n (by omega) (by omega)
theorem ref_text_l0 (a b : Int) (s : ByteArray) (hs : s.size ≤ 1000000) : ∀ (d i : Nat) (x : List Int), i + d = s.size → x.length ≤ 2 * i + 1 →
    Ev (fun k => constableref01_ValueText.l0 k (strOfNums x) i a b s) (strOfNums (x ++ (escS ((bytesOf s).drop i) ++ [34]))) := by
  intro d
  induction d with
  | zero =>
    intro i x hi hx
    refine evShift ?_
    simp only [constableref01_ValueText.l0, nums_size]
    refine evNeg (by omega) (evPos (by omega) (evSome ?_))
    rw [show i = s.size by omega, drop_end, show (⟨#[34]⟩ : ByteArray) = strOfNums [34] from rfl, nums_append]; rfl
  | succ d ih =>
    intro i x hi hx
    have hlt : i < s.size := by omega
    obtain ⟨c, h1, h2⟩ := codes_split s i hlt
    have w1 : wrap64 ((i : Int) + 1) = ((i + 1 : Nat) : Int) := wrap_succ hlt (by omega)
    have ex := ext_one s i hlt
    rw [h2] at ex
    refine evShift ?_
    simp only [constableref01_ValueText.l0, h2, w1, Int.toNat_natCast, ex, show (⟨#[92]⟩ : ByteArray) = strOfNums [92] from rfl, nums_append, nums_size]
    rw [h1]
    have two : c = 34 ∨ c = 92 → Ev (fun k => constableref01_ValueText.l0 k (strOfNums (x ++ [92] ++ [c])) ((i + 1 : Nat) : Int) a b s) (strOfNums (x ++ (escS (c :: (bytesOf s).drop (i + 1)) ++ [34]))) := by
      intro hc
      have := ih (i + 1) (x ++ [92] ++ [c]) (by omega) (by simp; omega)
      rw [show x ++ [92] ++ [c] ++ (escS ((bytesOf s).drop (i + 1)) ++ [34]) = x ++ (escS (c :: (bytesOf s).drop (i + 1)) ++ [34]) by simp [escS, hc]] at this
      exact this
    refine evPos (by omega) (evPos (by omega) (evIf (fun e => evPos (by omega) (evPos (by omega) (evPos (by omega) (evPos (by simp; omega) (two (.inl e)))))) (fun e1 => evIf (fun e => evPos (by omega) (evPos (by omega) (evPos (by omega) (evPos (by simp; omega) (two (.inr e)))))) (fun e2 => evPos (by omega) (evPos (by omega) (evPos (by simp; omega) ?_))))))
    have hn : ¬ (c = 34 ∨ c = 92) := fun h => h.elim e1 e2
    have := ih (i + 1) (x ++ [c]) (by omega) (by simp; omega)
    rw [show x ++ [c] ++ (escS ((bytesOf s).drop (i + 1)) ++ [34]) = x ++ (escS (c :: (bytesOf s).drop (i + 1)) ++ [34]) by simp [escS, hn]] at this
    exact this
theorem ref_ValueText_ev {k n : Int} {s : ByteArray} (h : valS k n s = true) : Ev (fun r => constableref01_ValueText.f r k n s) (textS k n s) := by
  unfold constableref01_ValueText.f textS
  refine evIf (fun e => ?_) (fun e => ?_)
  · subst e
    rw [if_pos rfl]
    exact Ev.bind (ref_Digits_ev (valS_int h).1) (evSome rfl)
  · rw [if_neg e]
    refine evIf (fun e2 => evSome (by rw [if_pos e2])) (fun e2 => ?_)
    rw [if_neg e2]
    have := ref_text_l0 k n s (Nat.le_trans (valS_size h) (by decide)) s.size 0 [34] (by omega) (by simp)
    rw [List.drop_zero] at this
    exact this
def numL : Int → Bool → List Int → Option Int
  | n, over, [] => if over then none else some n
  | n, over, c :: r => if digitI c then (if over then numL n true r else if n > (4611686018427387904 - (c - 48)) / 10 then numL n true r else numL (10 * n + (c - 48)) false r) else none
def numOut (below : Bool) : Option Int → Int × Bool
  | some m => (if below then wrap64 (-m) else m, true)
  | none => (0, false)
def numR (s : ByteArray) : Int × Bool :=
  if s.size = 0 then (0, false)
  else if bt s 0 = 45 then (if s.size = 1 then (0, false) else numOut true (numL 0 false ((bytesOf s).drop 1)))
  else numOut false (numL 0 false (bytesOf s))
theorem num_l0 (s : ByteArray) (below : Bool) (hs : s.size ≤ 1000000) : ∀ (d i : Nat) (n : Int) (over : Bool), i + d = s.size → 0 ≤ n → n ≤ 4611686018427387904 →
    Ev (fun k => constableref01_Number.l0 k s below n over i) (numOut below (numL n over ((bytesOf s).drop i))) := by
  intro d
  induction d with
  | zero =>
    intro i n over hi h0 h1
    refine evShift ?_
    simp only [constableref01_Number.l0]
    refine evNeg (by omega) ?_
    rw [show i = s.size by omega, drop_end]
    cases over with
    | true => exact evPos rfl (evSome rfl)
    | false =>
      refine evNeg (by decide) ?_
      cases below with
      | true => exact evPos rfl (evSome rfl)
      | false => exact evNeg (by decide) (evSome rfl)
  | succ d ih =>
    intro i n over hi h0 h1
    have hlt : i < s.size := by omega
    obtain ⟨c, e1, e2⟩ := codes_split s i hlt
    have w1 : wrap64 ((i : Int) + 1) = ((i + 1 : Nat) : Int) := wrap_succ hlt (by omega)
    refine evShift ?_
    simp only [constableref01_Number.l0, ref_Digit_eq, Option.bind_some, e2, w1]
    rw [e1]
    refine evPos (by omega) (evPos (by omega) ?_)
    unfold numL
    cases hd : digitI c with
    | false => exact evNeg (by decide) (evSome rfl)
    | true =>
      refine evPos rfl ?_
      have hc : 48 ≤ c ∧ c ≤ 57 := by unfold digitI at hd; simpa using hd
      have m1 : (c - 48) % 256 = c - 48 := by omega
      rw [m1]
      cases over with
      | true => exact evPos rfl (ih (i + 1) n true (by omega) h0 h1)
      | false =>
        simp only [if_true, Bool.false_eq_true, if_false]
        refine evIf (fun h => ?_) (fun h => ?_)
        · rw [if_pos h, decide_eq_true h]
          exact ih (i + 1) n true (by omega) h0 h1
        · rw [if_neg h, decide_eq_false h]
          have w2 : wrap64 (wrap64 (10 * n) + (c - 48)) = 10 * n + (c - 48) := by unfold wrap64; omega
          rw [w2]
          exact ih (i + 1) _ false (by omega) (by omega) (by omega)
theorem ext_tail (s : ByteArray) : bytesOf (s.extract 1 s.size) = (bytesOf s).drop 1 := by
  unfold bytesOf
  rw [ByteArray.data_extract, Array.toList_extract, List.extract_eq_take_drop, List.map_take, List.map_drop]
  apply List.take_of_length_le
  rw [List.length_drop, List.length_map, data_length]
  omega
theorem ref_Number_ev (s : ByteArray) (hs : s.size ≤ 1000000) : Ev (fun k => constableref01_Number.f k s) (numR s) := by
  unfold constableref01_Number.f numR
  have jf : Ev (fun k => constableref01_Number.j0 k s false) (if s.size = 0 then (0, false) else numOut false (numL 0 false (bytesOf s))) := by
    refine evShift ?_
    simp only [constableref01_Number.j0, Bool.false_eq_true, if_false]
    refine evShift ?_
    simp only [constableref01_Number.j1]
    refine evIf (fun h => evSome (by rw [if_pos (by omega)])) (fun h => ?_)
    rw [if_neg (by omega)]
    exact num_l0 s false hs s.size 0 0 false (by omega) (by decide) (by decide)
  by_cases h0 : s.size = 0
  · rw [if_pos h0] at jf ⊢
    exact evNeg (by omega) jf
  · rw [if_neg h0] at jf ⊢
    refine evPos (by omega) (evPos (by omega) ?_)
    by_cases h1 : bt s 0 = 45
    · have hsz : (s.extract 1 s.size).size = s.size - 1 := by
        have := congrArg List.length (ext_tail s)
        rw [len_codes, List.length_drop, len_codes] at this
        exact this
      rw [if_pos h1, h1]
      show Ev (fun k => constableref01_Number.j0 k s true) _
      refine evShift ?_
      simp only [constableref01_Number.j0, if_true]
      refine evPos (by omega) (evShift ?_)
      simp only [constableref01_Number.j1, hsz]
      refine evIf (fun h => evSome (by rw [if_pos (by omega)])) (fun h => ?_)
      rw [if_neg (by omega)]
      have := num_l0 (s.extract 1 s.size) true (by omega) (s.size - 1) 0 0 false (by omega) (by decide) (by decide)
      rw [List.drop_zero, ext_tail] at this
      exact this
    · rw [if_neg h1, beq_eq_false_iff_ne.2 h1]
      exact jf
theorem num_dec : ∀ (n u : Nat) (r : List Int), u ≤ n → u ≤ 4611686018427387904 → numL 0 false (decC u ++ r) = numL u false r
  | n, u, r, hn, hu => by
    by_cases h : u < 10
    · rw [decC_small h]
      simp only [List.cons_append, List.nil_append, numL]
      rw [if_pos (show digitI (48 + (u : Int)) = true from decide_eq_true (by omega)), if_neg (by decide), if_neg (by omega)]
      congr 1; omega
    · cases n with
      | zero => omega
      | succ n =>
        rw [decC_big h, List.append_assoc, num_dec n (u / 10) _ (by omega) (by omega)]
        simp only [List.cons_append, List.nil_append, numL]
        rw [if_pos (show digitI (48 + ((u % 10 : Nat) : Int)) = true from decide_eq_true (by omega)), if_neg (by decide), if_neg (by omega)]
        congr 1; omega
theorem num_itoa {n : Int} (h : InB n) : numR ⟨(Lib.itoa n).toArray⟩ = (n, true) := by
  have hb := h
  rw [InB_iff] at h
  obtain ⟨c, l, e, hc, _⟩ := itoa_codes n
  have hz : ¬ (⟨(Lib.itoa n).toArray⟩ : ByteArray).size = 0 := by
    intro hz
    have := len_codes ⟨(Lib.itoa n).toArray⟩
    rw [e, hz] at this
    simp at this
  unfold numR
  rw [if_neg hz, bt_zero e]
  by_cases hn : n < 0
  · have hc45 : c = 45 := by omega
    have hcodes : bytesOf ⟨(Lib.itoa n).toArray⟩ = 45 :: decC n.natAbs := by rw [codes_mk]; unfold Lib.itoa decC; rw [if_pos hn]; rfl
    have hne : ¬ (⟨(Lib.itoa n).toArray⟩ : ByteArray).size = 1 := by
      intro h1
      have := len_codes ⟨(Lib.itoa n).toArray⟩
      rw [hcodes, h1] at this
      obtain ⟨d, r, e2, _⟩ := dec_cons n.natAbs
      unfold decC at this
      rw [e2] at this
      simp at this
    rw [if_pos hc45, if_neg hne, hcodes]
    show numOut true (numL 0 false (decC n.natAbs)) = _
    have := num_dec n.natAbs n.natAbs [] (Nat.le_refl _) (by omega)
    rw [List.append_nil] at this
    rw [this]
    show ((if true = true then wrap64 (-(n.natAbs : Int)) else _), true) = _
    rw [if_pos rfl]
    congr 1
    unfold wrap64; omega
  · have hcodes : bytesOf ⟨(Lib.itoa n).toArray⟩ = decC n.toNat := by rw [codes_mk]; unfold Lib.itoa decC; rw [if_neg hn]
    rw [if_neg (by omega), hcodes]
    have := num_dec n.toNat n.toNat [] (Nat.le_refl _) (by omega)
    rw [List.append_nil] at this
    rw [this]
    show ((if false = true then _ else (n.toNat : Int)), true) = _
    rw [if_neg (by decide)]
    congr 1; omega
theorem num_no {s : ByteArray} {c : Int} {l : List Int} (e : bytesOf s = c :: l) (h1 : ¬ c = 45) (h2 : digitI c = false) : numR s = (0, false) := by
  unfold numR
  split
  · rfl
  · rw [bt_zero e, if_neg h1, e]
    unfold numL
    rw [h2]
    rfl
def quoL : List Int → List Int → List Int × Bool
  | _, [] => ([], false)
  | out, [c] => if c = 34 then (out, decide (out.length ≤ 60)) else ([], false)
  | out, c :: d :: r => if c = 34 then (out, false) else if c = 92 then (if d = 34 ∨ d = 92 then quoL (out ++ [d]) r else ([], false)) else if plainI c then quoL (out ++ [c]) (d :: r) else ([], false)
def quoOut (p : List Int × Bool) : ByteArray × Bool := (strOfNums p.1, p.2)
theorem quo_l0 (s : ByteArray) (hs : s.size ≤ 1000000) : ∀ (d i : Nat) (x : List Int), s.size - i ≤ d → i ≤ s.size → x.length ≤ i → Ev (fun k => constableref01_Quoted.l0 k s (strOfNums x) i) (quoOut (quoL x ((bytesOf s).drop i))) := by
  have wm : 1 ≤ s.size → wrap64 ((s.size : Int) - 1) = ((s.size - 1 : Nat) : Int) := fun h => by unfold wrap64; omega
  intro d
  induction d with
  | zero =>
    intro i x hd hi hx
    refine evShift ?_
    simp only [constableref01_Quoted.l0]
    refine evNeg (by omega) (evSome ?_)
    rw [show i = s.size by omega, drop_end]; rfl
  | succ d ih =>
    intro i x hd hi hx
    by_cases hlt : i < s.size
    · obtain ⟨c, h1, h2⟩ := codes_split s i hlt
      have hr := bt_range s i
      rw [h2] at hr
      have w1 : wrap64 ((i : Int) + 1) = ((i + 1 : Nat) : Int) := wrap_succ hlt (by omega)
      have wc : wrap64 c = c := by unfold wrap64; omega
      have ex := ext_one s i hlt
      rw [h2] at ex
      refine evShift ?_
      simp only [constableref01_Quoted.l0, h2, w1, wm (by omega), wc, Int.toNat_natCast, ex, nums_size, nums_append, constableref01_In.f]
      refine evPos (by omega) (evPos (by omega) ?_)
      rw [h1]
      by_cases hl : i + 1 = s.size
      · rw [hl, drop_end]
        unfold quoL
        refine evIf (fun e => ?_) (fun e => ?_)
        · rw [if_pos e]
          exact evPos (by omega) (evSome (by unfold quoOut; congr 1; rw [decide_eq_decide]; omega))
        · rw [if_neg e]
          refine evIf (fun e2 => evPos (by omega) (evSome rfl)) (fun e2 => ?_)
          have := ih (i + 1) (x ++ [c]) (by omega) (by omega) (by simp; omega)
          rw [hl, drop_end] at this
          by_cases hp : c ≥ 32
          · rw [if_pos hp]
            simp only [Option.bind_some]
            by_cases hp2 : c ≤ 126
            · rw [decide_eq_true hp2]
              exact evPos rfl (evPos (by omega) (evPos (by omega) (evPos (by simp; omega) this)))
            · rw [decide_eq_false hp2]
              exact evNeg (by decide) (evSome rfl)
          · rw [if_neg hp]
            simp only [Option.bind_some]
            exact evNeg (by decide) (evSome rfl)
      · have hlt2 : i + 1 < s.size := by omega
        obtain ⟨c2, g1, g2⟩ := codes_split s (i + 1) hlt2
        have w2 : wrap64 (((i + 1 : Nat) : Int) + 1) = ((i + 1 + 1 : Nat) : Int) := wrap_succ hlt2 (by omega)
        have ex2 := ext_one s (i + 1) hlt2
        rw [g2] at ex2
        rw [g1]
        simp only [quoL]
        simp only [g2, w2, Int.toNat_natCast, ex2, nums_append, nums_size]
        clear w1 w2 wc wm
        have k1 : s.size - (i + 1 + 1) ≤ d := by omega
        have k3 : (x ++ [c2]).length ≤ i + 1 + 1 := by rw [List.length_append, List.length_singleton]; omega
        have nxt := ih (i + 1 + 1) (x ++ [c2]) k1 hlt2 k3
        have two : c2 = 34 ∨ c2 = 92 → Ev (fun k => constableref01_Quoted.l0 k s (strOfNums (x ++ [c2])) ((i + 1 + 1 : Nat) : Int)) (quoOut (if c2 = 34 ∨ c2 = 92 then quoL (x ++ [c2]) ((bytesOf s).drop (i + 1 + 1)) else ([], false))) := fun h => (if_pos h).symm ▸ nxt
        refine evIf (fun e => ?_) (fun e => ?_)
        · rw [if_pos e]
          exact evNeg (by omega) (evSome rfl)
        · rw [if_neg e]
          refine evIf (fun e2 => ?_) (fun e2 => ?_)
          · rw [if_pos e2]
            have b1 : x.length + ([c2] : List Int).length ≤ 9223372036854775807 := by rw [List.length_singleton]; omega
            refine evNeg (by omega) (evPos (by omega) (evPos (by omega) ?_))
            by_cases k1 : c2 = 34
            · refine evPos k1 (evPos (by omega) (evPos (by omega) (evPos b1 ?_)))
              exact two (.inl k1)
            · refine evNeg k1 ?_
              by_cases k2 : c2 = 92
              · refine evPos k2 (evPos (by omega) (evPos (by omega) (evPos b1 ?_)))
                exact two (.inr k2)
              · refine evNeg k2 (evSome ?_)
                rw [if_neg (fun h => h.elim k1 k2)]; rfl
          · rw [if_neg e2]
            have := ih (i + 1) (x ++ [c]) (by omega) (by omega) (by simp; omega)
            rw [g1] at this
            by_cases hp : c ≥ 32
            · rw [if_pos hp]
              simp only [Option.bind_some]
              by_cases hp2 : c ≤ 126
              · rw [decide_eq_true hp2, if_pos (show plainI c = true from decide_eq_true ⟨hp, hp2⟩)]
                exact evPos rfl (evPos (by omega) (evPos (by omega) (evPos (by simp; omega) this)))
              · rw [decide_eq_false hp2, if_neg (show ¬ plainI c = true by unfold plainI; rw [decide_eq_true_eq]; omega)]
                exact evNeg (by decide) (evSome rfl)
            · rw [if_neg hp, if_neg (show ¬ plainI c = true by unfold plainI; rw [decide_eq_true_eq]; omega)]
              simp only [Option.bind_some]
              exact evNeg (by decide) (evSome rfl)
    · refine evShift ?_
      simp only [constableref01_Quoted.l0]
      refine evNeg (by omega) (evSome ?_)
      rw [show i = s.size by omega, drop_end]; rfl
def quoR (s : ByteArray) : ByteArray × Bool := if s.size < 2 then (⟨#[]⟩, false) else if bt s 0 = 34 then quoOut (quoL [] ((bytesOf s).drop 1)) else (⟨#[]⟩, false)
theorem ref_Quoted_ev (s : ByteArray) (hs : s.size ≤ 1000000) : Ev (fun k => constableref01_Quoted.f k s) (quoR s) := by
  unfold constableref01_Quoted.f quoR
  have jt : Ev (fun k => constableref01_Quoted.j0 k s true) ((⟨#[]⟩ : ByteArray), false) := by
    refine evShift ?_
    simp only [constableref01_Quoted.j0, if_true]
    exact evSome rfl
  refine evIf (fun h => ?_) (fun h => evPos (by omega) ?_)
  · rw [if_pos (by omega)]; exact jt
  · rw [if_neg (by omega)]
    by_cases e : bt s 0 = 34
    · rw [if_pos e, e]
      show Ev (fun k => constableref01_Quoted.j0 k s false) _
      refine evShift ?_
      simp only [constableref01_Quoted.j0, Bool.false_eq_true, if_false]
      exact quo_l0 s hs s.size 1 [] (by omega) (by omega) (by simp)
    · rw [if_neg e, bne_iff_ne.2 e]; exact jt
theorem quo_esc : ∀ (l out : List Int), l.all plainI = true → quoL out (escS l ++ [34]) = (out ++ l, decide ((out ++ l).length ≤ 60))
  | [], out, _ => by simp [escS, quoL]
  | c :: l, out, h => by
    rw [List.all_cons, Bool.and_eq_true] at h
    have ne : ∃ d r, escS l ++ [34] = d :: r := by
      cases e : escS l with
      | nil => exact ⟨34, [], rfl⟩
      | cons d r => exact ⟨d, r ++ [34], rfl⟩
    obtain ⟨d, r, e⟩ := ne
    unfold escS
    split
    · rename_i hc
      show quoL out (92 :: c :: (escS l ++ [34])) = _
      simp only [quoL]
      rw [if_neg (by decide), if_pos trivial, if_pos hc, quo_esc l (out ++ [c]) h.2]
      simp
    · rename_i hc
      have ih := quo_esc l (out ++ [c]) h.2
      show quoL out (c :: (escS l ++ [34])) = _
      rw [e] at ih ⊢
      simp only [quoL]
      rw [if_neg (fun k => hc (.inl k)), if_neg (fun k => hc (.inr k)), if_pos h.1, ih]
      simp
def candR (s : ByteArray) : S44 := if (numR s).2 = true then ⟨1, (numR s).1, ⟨#[]⟩⟩ else if (quoR s).2 = true then ⟨3, 0, (quoR s).1⟩ else ⟨2, 0, s⟩
def parseR (s : ByteArray) : S44 × Bool := if fitsS (candR s) s then (candR s, true) else (zE, false)
def tupQ (p : S44 × Bool) : Int × Int × ByteArray × Bool := (p.1.f0, p.1.f1, p.1.f2, p.2)
theorem parse_j0 (v : S44) (s : ByteArray) (hv : v.f2.size ≤ maxLen) : Ev (fun k => constableref01_ParseValue.j0 k s v.f0 v.f1 v.f2) (tupQ (if fitsS v s then (v, true) else (zE, false))) := by
  refine evShift ?_
  simp only [constableref01_ParseValue.j0]
  refine Ev.bind (ref_Value_ev v.f0 v.f1 v.f2 hv) ?_
  unfold fitsS
  cases h : valS v.f0 v.f1 v.f2 with
  | false => exact evNeg (by decide) (evSome rfl)
  | true =>
    refine evPos rfl (Ev.bind (ref_ValueText_ev h) ?_)
    rw [Bool.true_and]
    by_cases e : textS v.f0 v.f1 v.f2 = s
    · rw [decide_eq_true e]; exact evPos (tl_inj.2 e) (evSome rfl)
    · rw [decide_eq_false e]; exact evNeg (fun h => e (tl_inj.1 h)) (evSome rfl)
theorem quoL_len : ∀ (n : Nat) (l out : List Int), l.length ≤ n → (quoL out l).1.length ≤ out.length + l.length
  | _, [], out, _ => by simp [quoL]
  | _, [c], out, _ => by
    unfold quoL
    split
    · show out.length ≤ out.length + 1; omega
    · exact Nat.zero_le _
  | 0, c :: d :: r, out, h => by simp at h
  | n + 1, c :: d :: r, out, h => by
    simp only [quoL]
    split
    · show out.length ≤ _; omega
    · split
      · split
        · have := quoL_len n r (out ++ [d]) (by simp at h; omega)
          simp at this ⊢; omega
        · simp
      · split
        · have := quoL_len n (d :: r) (out ++ [c]) (by simp at h ⊢; omega)
          simp at this ⊢; omega
        · simp
theorem ref_Parse_ev (s : ByteArray) (hs : s.size ≤ 1000000) : Ev (fun k => constableref01_ParseValue.f k s) (tupQ (parseR s)) := by
  unfold constableref01_ParseValue.f parseR candR
  refine Ev.bind (ref_Number_ev s hs) (evIf (fun h => ?_) (fun h => Ev.bind (ref_Quoted_ev s hs) (evIf (fun h2 => ?_) (fun h2 => ?_))))
  · rw [if_pos h]
    exact parse_j0 ⟨1, (numR s).1, ⟨#[]⟩⟩ s (by unfold maxLen; exact Nat.zero_le _)
  · rw [if_neg h, if_pos h2]
    refine parse_j0 ⟨3, 0, (quoR s).1⟩ s ?_
    show (quoR s).1.size ≤ maxLen
    unfold quoR
    split
    · exact Nat.zero_le _
    · split
      · show (strOfNums _).size ≤ _
        rw [nums_size]
        have := quoL_len _ ((bytesOf s).drop 1) [] (Nat.le_refl _)
        rw [List.length_drop, len_codes, List.length_nil] at this
        unfold maxLen
        omega
      · exact Nat.zero_le _
  · rw [if_neg h, if_neg h2]
    exact parse_j0 ⟨2, 0, s⟩ s (by show s.size ≤ maxLen; unfold maxLen; omega)
theorem cand_ref {k n : Int} {s : ByteArray} (h : valS k n s = true) : candR (textS k n s) = ⟨k, n, s⟩ := by
  unfold textS
  by_cases h1 : k = 1
  · subst h1
    obtain ⟨hb, rfl⟩ := valS_int h
    rw [if_pos rfl]
    unfold candR
    rw [num_itoa hb, if_pos rfl]
  · rw [if_neg h1]
    by_cases h2 : k = 2
    · subst h2
      obtain ⟨rfl, hw⟩ := valS_sym h
      obtain ⟨hs, hf, _⟩ := sym_first hw
      rw [if_pos rfl]
      obtain ⟨c, e, e2⟩ := codes_split s 0 (by omega)
      rw [List.drop_zero] at e
      have e2' : bt s 0 = c := e2
      rw [e2'] at hf
      unfold smallI at hf
      rw [decide_eq_true_eq] at hf
      have hn := num_no e (by omega) (show digitI c = false from decide_eq_false (by omega))
      have hq : quoR s = (⟨#[]⟩, false) := by
        unfold quoR
        rw [e2', if_neg (show ¬ c = 34 by omega)]
        split <;> rfl
      unfold candR
      rw [hn, hq, if_neg (by decide), if_neg (by decide)]
    · rw [if_neg h2]
      obtain ⟨rfl, rfl, hp, hl⟩ := valS_str h h1 h2
      have e : bytesOf (quoteS s) = 34 :: (escS (bytesOf s) ++ [34]) := codes_of_nums (quoteL_byte (byteL_codes s))
      have hn := num_no e (by decide) (by decide)
      have hsz : ¬ (quoteS s).size < 2 := by
        have := len_codes (quoteS s)
        rw [e] at this
        simp at this
        omega
      have hq : quoR (quoteS s) = (s, true) := by
        unfold quoR
        rw [if_neg hsz, bt_zero e, if_pos rfl, e]
        show quoOut (quoL [] (escS (bytesOf s) ++ [34])) = _
        rw [quo_esc _ _ hp]
        unfold quoOut
        simp only [List.nil_append, nums_codes, len_codes]
        rw [decide_eq_true hl]
      unfold candR
      rw [hn, hq, if_neg (by decide), if_pos rfl]
theorem parse_same (s : ByteArray) : (∃ v, parseS s = (v, 0) ∧ parseR s = (v, true)) ∨ (parseS s = (zE, 7) ∧ parseR s = (zE, false)) := by
  rcases parse_fits (s := s) with ⟨v, e, hv, ht⟩ | e
  · refine .inl ⟨v, e, ?_⟩
    have hc := cand_ref hv
    rw [ht] at hc
    unfold parseR
    rw [hc]
    have : fitsS v s = true := by unfold fitsS; rw [hv, decide_eq_true ht]; rfl
    show (if fitsS v s = true then (v, true) else (zE, false)) = _
    rw [this]; rfl
  · refine .inr ⟨e, ?_⟩
    unfold parseR
    cases hf : fitsS (candR s) s with
    | false => rfl
    | true =>
      exfalso
      unfold fitsS at hf
      simp only [Bool.and_eq_true, decide_eq_true_eq] at hf
      have := parse_text hf.1
      rw [hf.2, e] at this
      have := congrArg Prod.snd this
      exact absurd this (show ¬ (7 : Int) = 0 by decide)
end Go.Proofs.YtaopajmpifenoaaDoor.P
end
section
namespace Go.Proofs.YtaopajmpifenoaaDoor.P
open Go.RowKit Go.Proofs.YtaopajmpifenoaaDoorW.PrintWords Go.Proofs.YtaopajmpifenoaaDoorW.PrintLast Go.Proofs.YtaopajmpifenoaaDoorW.PrintMore
theorem ref_Name_l0 (s : ByteArray) (l : List ByteArray) (hl : l.length ≤ 1000) : ∀ i : Nat, i ≤ l.length → Ev (fun k => constableref01_Name.l0 k s l i) (!((l.drop i).any fun x => decide (x = s))) := by
  refine back_ind l.length (fun k i => constableref01_Name.l0 k s l i) _ ?_ ?_
  · refine evShift ?_
    simp only [constableref01_Name.l0]
    refine evNeg (by omega) (evSome ?_)
    rw [List.drop_length]; rfl
  · intro i hi ih
    refine evShift ?_
    simp only [constableref01_Name.l0]
    refine evPos (by omega) (evPos (by omega) ?_)
    rw [rdOf_nth _ l i hi, List.drop_eq_getElem_cons hi, wrap_succ hi (by omega), List.any_cons]
    refine evIf (fun e => ?_) (fun e => ?_)
    · rw [decide_eq_true (tl_inj.1 e), Bool.true_or]; exact evSome rfl
    · rw [decide_eq_false (fun h => e (tl_inj.2 h)), Bool.false_or]; exact ih
theorem ref_Name_ev (s : ByteArray) (hs : s.size ≤ maxLen) : Ev (fun k => constableref01_Name.f k s) (nameS s) := by
  unfold constableref01_Name.f nameS
  refine Ev.bind (ref_Word_ev s false hs) ?_
  cases wordS false s with
  | false => exact evNeg (by decide) (evSome rfl)
  | true =>
    refine evPos rfl ?_
    simp only [constableref01_words.f, Option.bind_some, Bool.true_and]
    exact ref_Name_l0 s wordsL (by decide) 0 (Nat.zero_le _)
theorem ref_Fact_ev (f : S24) (hf : FactOk f) : Ev (fun k => constableref01_Fact.f k f.f0 f.f1) (factS f) := by
  obtain ⟨h1, h2, h3⟩ := hf
  have h : ∀ i : Nat, i ≤ f.f1.length → Ev (fun k => constableref01_Fact.l0 k i f.f0 f.f1) ((f.f1.drop i).all vS2) := by
    refine back_ind f.f1.length (fun k i => constableref01_Fact.l0 k i f.f0 f.f1) _ ?_ ?_
    · refine evShift ?_
      simp only [constableref01_Fact.l0]
      refine evNeg (by omega) (evSome ?_)
      rw [List.drop_length]; rfl
    · intro i hi ih
      refine evShift ?_
      simp only [constableref01_Fact.l0, rdA_nth f.f1 i hi]
      refine evPos (by omega) (evPos (by omega) ?_)
      rw [List.drop_eq_getElem_cons hi, wrap_succ hi (by omega), List.all_cons]
      refine Ev.bind (ref_Value_ev _ _ _ (Nat.le_trans (h3 _ (List.getElem_mem hi)) (by decide))) ?_
      have e : vS2 f.f1[i] = valS (f.f1[i]).f0 (f.f1[i]).f1 (f.f1[i]).f2 := rfl
      rw [e]
      cases valS (f.f1[i]).f0 (f.f1[i]).f1 (f.f1[i]).f2 with
      | true => exact evPos rfl ih
      | false => exact evNeg (by decide) (evSome rfl)
  have jt : Ev (fun k => constableref01_Fact.j0 k true f.f0 f.f1) false := by
    refine evShift ?_
    simp only [constableref01_Fact.j0, if_true]
    exact evSome rfl
  unfold constableref01_Fact.f factS
  refine Ev.bind (ref_Name_ev f.f0 (Nat.le_trans h1 (by decide))) ?_
  cases nameS f.f0 with
  | false => exact evNeg (by decide) jt
  | true =>
    refine evPos rfl ?_
    by_cases h5 : f.f1.length ≤ 5
    · rw [decide_eq_false (show ¬ (f.f1.length : Int) > 5 by omega), decide_eq_true h5]
      refine evShift ?_
      simp only [constableref01_Fact.j0, Bool.false_eq_true, if_false]
      exact h 0 (Nat.zero_le _)
    · rw [decide_eq_true (show (f.f1.length : Int) > 5 by omega), decide_eq_false h5]
      exact jt
theorem ref_Facts_ev (f g : S24) (hf : FactOk f) (hg : FactOk g) : Ev (fun k => constableref01_Facts.f k f.f0 f.f1 g.f0 g.f1) (cmpF f g) := by
  obtain ⟨f1, f2, f3⟩ := hf
  obtain ⟨g1, g2, g3⟩ := hg
  have hs := ref_Strings_ev f.f0 g.f0 (Nat.le_trans f1 (by decide)) (Nat.le_trans g1 (by decide))
  have e : cmpS (bytesOf f.f0) (bytesOf g.f0) = cmpB f.f0 g.f0 := cmpS_cb _ _
  rw [e] at hs
  unfold constableref01_Facts.f cmpF lexI
  refine Ev.bind hs (evIf (fun h0 => ?_) (fun h0 => evSome (by rw [if_neg h0])))
  rw [if_pos h0]
  simp only [ref_order_cmp, Option.bind_some]
  refine evIf (fun h1 => ?_) (fun h1 => evSome (by rw [if_neg h1]))
  rw [if_pos h1]
  have hl : f.f1.length = g.f1.length := by have := (cmpI_zero _ _).1 h1; omega
  have h : ∀ i : Nat, i ≤ f.f1.length → Ev (fun k => constableref01_Facts.l0 k i f.f0 f.f1 g.f0 g.f1) (lexL cmpV (f.f1.drop i) (g.f1.drop i)) := by
    refine back_ind f.f1.length (fun k i => constableref01_Facts.l0 k i f.f0 f.f1 g.f0 g.f1) _ ?_ ?_
    · refine evShift ?_
      simp only [constableref01_Facts.l0]
      refine evNeg (by omega) (evSome ?_)
      rw [List.drop_length, hl, List.drop_length]; rfl
    · intro i hi ih
      have hi2 : i < g.f1.length := by omega
      refine evShift ?_
      simp only [constableref01_Facts.l0, rdA_nth f.f1 i hi, rdA_nth g.f1 i hi2]
      refine evPos (by omega) (evPos (by omega) (evPos (by omega) ?_))
      rw [List.drop_eq_getElem_cons hi, List.drop_eq_getElem_cons hi2, wrap_succ hi (by omega)]
      refine Ev.bind (ref_Values_ev _ _ (Nat.le_trans (f3 _ (List.getElem_mem hi)) (by decide)) (Nat.le_trans (g3 _ (List.getElem_mem hi2)) (by decide))) ?_
      simp only [lexL, lexI]
      refine evIf (fun e => ?_) (fun e => evSome (by rw [if_neg e]))
      rw [if_pos e]; exact ih
  exact h 0 (Nat.zero_le _)
theorem ref_Lists_ev (a b : List S24) (ha : a.length ≤ 1000) (hb : b.length ≤ 1000) (oa : ∀ f ∈ a, FactOk f) (ob : ∀ f ∈ b, FactOk f) : Ev (fun k => constableref01_Lists.f k a b) (lexL cmpF a b) := by
  have h : ∀ (d i : Nat), i + d = a.length → i ≤ b.length → Ev (fun k => constableref01_Lists.l0 k a b i) (lexL cmpF (a.drop i) (b.drop i)) := by
    intro d
    induction d with
    | zero =>
      intro i hi hib
      refine evShift ?_
      simp only [constableref01_Lists.l0]
      refine evNeg (by omega) (evShift ?_)
      simp only [constableref01_Lists.j1, Bool.false_eq_true, if_false, ref_order_eq, Option.bind_some]
      refine evSome ?_
      rw [List.drop_of_length_le (l := a) (by omega)]
      by_cases h2 : i < b.length
      · rw [List.drop_eq_getElem_cons h2, if_pos (by omega)]; rfl
      · rw [List.drop_of_length_le (l := b) (by omega), if_neg (by omega), if_neg (by omega)]; rfl
    | succ d ih =>
      intro i hi hib
      have hlt : i < a.length := by omega
      refine evShift ?_
      simp only [constableref01_Lists.l0]
      refine evPos (by omega) (evShift ?_)
      by_cases h2 : i < b.length
      · simp only [constableref01_Lists.j1, rdF_nth a i hlt, rdF_nth b i h2]
        refine evPos (by rw [decide_eq_true_eq]; omega) (evPos (by omega) (evPos (by omega) (evPos (by omega) ?_)))
        rw [List.drop_eq_getElem_cons hlt, List.drop_eq_getElem_cons h2, wrap_succ hlt (by omega)]
        refine Ev.bind (ref_Facts_ev _ _ (oa _ (List.getElem_mem hlt)) (ob _ (List.getElem_mem h2))) ?_
        simp only [lexL, lexI]
        refine evIf (fun e => ?_) (fun e => evSome (by rw [if_neg e]))
        rw [if_pos e]
        exact ih (i + 1) (by omega) (by omega)
      · simp only [constableref01_Lists.j1, ref_order_eq, Option.bind_some]
        refine evNeg (by rw [decide_eq_true_eq]; omega) (evSome ?_)
        rw [List.drop_eq_getElem_cons hlt, List.drop_of_length_le (l := b) (by omega), if_neg (by omega), if_pos (by omega)]; rfl
  exact h a.length 0 (by omega) (by omega)
theorem ref_text_tail (f : S24) (hall : f.f1.all vS2 = true) (h2 : f.f1.length ≤ 20) : ∀ (d i : Nat) (x : List UInt8), i + d = f.f1.length → 1 ≤ i → x.length ≤ 1000 + 300 * i →
    Ev (fun k => constableref01_FactText.l0 k (mkB x) i f.f0 f.f1) (mkB (x ++ (Lib.joinTail [44, 32] ((f.f1.drop i).map textU) ++ [41]))) := by
  have q2 : (⟨#[41]⟩ : ByteArray) = mkB [41] := rfl
  have q3 : (⟨#[44, 32]⟩ : ByteArray) = mkB [44, 32] := rfl
  intro d
  induction d with
  | zero =>
    intro i x hi h1 hx
    refine evShift ?_
    simp only [constableref01_FactText.l0, q2, mkB_append, mkB_size]
    refine evNeg (by omega) (evPos (by omega) (evPos (by omega) (evSome ?_)))
    rw [List.drop_of_length_le (by omega)]
    simp [Lib.joinTail]
  | succ d ih =>
    intro i x hi h1 hx
    have hlt : i < f.f1.length := by omega
    have hv : vS2 f.f1[i] = true := List.all_eq_true.1 hall _ (List.getElem_mem hlt)
    have hl := textU_len hv
    have ht := ref_ValueText_ev (show valS (f.f1[i]).f0 (f.f1[i]).f1 (f.f1[i]).f2 = true from hv)
    have et : textS (f.f1[i]).f0 (f.f1[i]).f1 (f.f1[i]).f2 = mkB (textU f.f1[i]) := (mkB_list _).symm
    rw [et] at ht
    refine evShift ?_
    simp only [constableref01_FactText.l0, rdA_nth f.f1 i hlt, q3, mkB_append, mkB_size]
    refine evPos (by omega) (evNeg (by omega) (evPos (by omega) (evPos (by omega) (Ev.bind ht ?_))))
    simp only [mkB_append, mkB_size, List.length_append, List.length_cons, List.length_nil]
    refine evPos (by omega) ?_
    rw [wrap_succ hlt (by omega)]
    have := ih (i + 1) (x ++ [44, 32] ++ textU f.f1[i]) (by omega) (by omega) (by simp only [List.length_append, List.length_cons, List.length_nil]; omega)
    rw [List.drop_eq_getElem_cons hlt]
    have e : x ++ [44, 32] ++ textU f.f1[i] ++ (Lib.joinTail [44, 32] ((f.f1.drop (i + 1)).map textU) ++ [41]) = x ++ (Lib.joinTail [44, 32] ((f.f1[i] :: f.f1.drop (i + 1)).map textU) ++ [41]) := by
      unfold Lib.joinTail; simp only [List.map_cons, List.flatten_cons, List.append_assoc, List.cons_append, List.nil_append]
    rw [e] at this
    exact this
theorem ref_FactText_ev (f : S24) (hf : FactOk f) (hs : factS f = true) : Ev (fun k => constableref01_FactText.f k f.f0 f.f1) (mkB (factU f)) := by
  obtain ⟨h1, h2, h3⟩ := hf
  have hall : f.f1.all vS2 = true := by
    unfold factS at hs
    simp only [Bool.and_eq_true] at hs
    exact hs.2.2
  have q1 : (⟨#[40]⟩ : ByteArray) = mkB [40] := rfl
  have hn : f.f0.data.toList.length = f.f0.size := by rw [Array.length_toList]; rfl
  unfold constableref01_FactText.f
  by_cases h0 : f.f1 = []
  · refine evShift ?_
    simp only [constableref01_FactText.l0]
    rw [h0]
    refine evNeg (by decide) (evNeg (by decide) (evSome ?_))
    unfold factU
    rw [if_pos h0, List.append_nil, mkB_list]
  · have hlt : 0 < f.f1.length := List.length_pos_iff.2 h0
    have hv : vS2 f.f1[0] = true := List.all_eq_true.1 hall _ (List.getElem_mem hlt)
    have hl := textU_len hv
    have ht := ref_ValueText_ev (show valS (f.f1[0]).f0 (f.f1[0]).f1 (f.f1[0]).f2 = true from hv)
    have et : textS (f.f1[0]).f0 (f.f1[0]).f1 (f.f1[0]).f2 = mkB (textU f.f1[0]) := (mkB_list _).symm
    rw [et] at ht
    have hr := rdA_nth f.f1 0 hlt
    have hrest := ref_text_tail f hall h2 (f.f1.length - 1) 1 (f.f0.data.toList ++ ([40] : List UInt8) ++ textU f.f1[0]) (by omega) (by omega) (by simp only [List.length_append, List.length_singleton]; omega)
    refine evShift ?_
    simp only [constableref01_FactText.l0]
    refine evPos (by omega) (evPos (by trivial) (evPos (by omega) (evPos (by decide) ?_)))
    have hr0 : rd_T44 f.f1 0 = f.f1[0] := hr
    rw [hr0]
    refine Ev.bind ht ?_
    have e0 : f.f0 ++ mkB [40] = mkB (f.f0.data.toList ++ ([40] : List UInt8)) := by rw [← mkB_append, mkB_list]
    have w : wrap64 (0 + 1) = ((1 : Nat) : Int) := by unfold wrap64; omega
    rw [q1, e0, w]
    refine evPos (by rw [mkB_size, mkB_size, List.length_append, List.length_singleton]; omega) ?_
    rw [mkB_append]
    have ef : f.f0.data.toList ++ ([40] : List UInt8) ++ textU f.f1[0] ++ (Lib.joinTail [44, 32] ((f.f1.drop 1).map textU) ++ [41]) = factU f := by
      unfold factU
      rw [if_neg h0]
      have : f.f1 = f.f1[0] :: f.f1.drop 1 := by
        have := List.drop_eq_getElem_cons hlt
        rw [List.drop_zero] at this
        exact this
      rw [show Lib.join (f.f1.map textU) [44, 32] = textU f.f1[0] ++ Lib.joinTail [44, 32] ((f.f1.drop 1).map textU) by rw [← Lib.join_cons, ← List.map_cons, ← this]]
      simp
    rw [ef] at hrest
    exact hrest
theorem keep_Fact_same (f : S24) (hl : f.f1.length ≤ 1000) : Ev (fun k => constablekeep_Fact.f k f.f0 f.f1 f.f0 f.f1) true := by
  have h : ∀ i : Nat, i ≤ f.f1.length → Ev (fun k => constablekeep_Fact.l0 k i f.f0 f.f1 f.f0 f.f1) true := by
    refine back_ind f.f1.length (fun k i => constablekeep_Fact.l0 k i f.f0 f.f1 f.f0 f.f1) (fun _ => true) ?_ ?_
    · refine evShift ?_
      simp only [constablekeep_Fact.l0]
      exact evNeg (by omega) (evSome rfl)
    · intro i hi ih
      refine evShift ?_
      simp only [constablekeep_Fact.l0]
      rw [wrap_succ hi (by omega)]
      exact evPos (by omega) (evPos (by omega) (evPos (by omega) (evNeg (by simp) ih)))
  unfold constablekeep_Fact.f
  refine evPos rfl ?_
  rw [bne_self_eq_false]
  refine evShift ?_
  simp only [constablekeep_Fact.j0, Bool.false_eq_true, if_false]
  exact h 0 (Nat.zero_le _)
def heavyF (f : S24) : Bool := decide (f.f0.size > 200) || (decide (f.f1.length > 20) || f.f1.any fun v => decide (v.f2.size > 200))
theorem heavy_ev (f : S24) : Ev (fun k => constablelaw03_Heavy.f k f.f0 f.f1) (heavyF f) := by
  have jt : Ev (fun k => constablelaw03_Heavy.j0 k true f.f0 f.f1) true := by
    refine evShift ?_
    simp only [constablelaw03_Heavy.j0, if_true]
    exact evSome rfl
  unfold constablelaw03_Heavy.f heavyF
  refine evIf (fun h => ?_) (fun h => ?_)
  · rw [decide_eq_true (show f.f0.size > 200 by omega)]; exact jt
  · rw [decide_eq_false (show ¬ f.f0.size > 200 by omega), Bool.false_or]
    by_cases h2 : f.f1.length > 20
    · rw [decide_eq_true h2, decide_eq_true (show (f.f1.length : Int) > 20 by omega)]; exact jt
    · rw [decide_eq_false h2, decide_eq_false (show ¬ (f.f1.length : Int) > 20 by omega), Bool.false_or]
      have h : ∀ i : Nat, i ≤ f.f1.length → Ev (fun k => constablelaw03_Heavy.l0 k i f.f0 f.f1) ((f.f1.drop i).any fun v => decide (v.f2.size > 200)) := by
        refine back_ind f.f1.length (fun k i => constablelaw03_Heavy.l0 k i f.f0 f.f1) _ ?_ ?_
        · refine evShift ?_
          simp only [constablelaw03_Heavy.l0]
          refine evNeg (by omega) (evSome ?_)
          rw [List.drop_length]; rfl
        · intro i hi ih
          refine evShift ?_
          simp only [constablelaw03_Heavy.l0, rdA_nth f.f1 i hi]
          rw [List.drop_eq_getElem_cons hi, wrap_succ hi (by omega), List.any_cons]
          refine evPos (by omega) (evPos (by omega) (evIf (fun e => ?_) (fun e => ?_)))
          · rw [decide_eq_true (show (f.f1[i]).f2.size > 200 by omega), Bool.true_or]; exact evSome rfl
          · rw [decide_eq_false (show ¬ (f.f1[i]).f2.size > 200 by omega), Bool.false_or]; exact ih
      refine evShift ?_
      simp only [constablelaw03_Heavy.j0, Bool.false_eq_true, if_false]
      exact h 0 (Nat.zero_le _)
theorem light_fact {f : S24} (h : heavyF f = false) : FactOk f := by
  unfold heavyF at h
  simp only [Bool.or_eq_false_iff, decide_eq_false_iff_not, List.any_eq_false, decide_eq_true_eq] at h
  exact ⟨by omega, by omega, fun v hv => by have := h.2.2 v hv; omega⟩
def manyF (l : List S24) : Bool := decide (l.length > 60) || l.any heavyF
theorem many_ev (l : List S24) : Ev (fun k => constablelaw03_Many.f k l) (manyF l) := by
  unfold constablelaw03_Many.f manyF
  refine evIf (fun h => evSome (by rw [decide_eq_true (show l.length > 60 by omega)]; rfl)) (fun h => ?_)
  rw [decide_eq_false (show ¬ l.length > 60 by omega), Bool.false_or]
  have h : ∀ i : Nat, i ≤ l.length → Ev (fun k => constablelaw03_Many.l0 k l i) ((l.drop i).any heavyF) := by
    refine back_ind l.length (fun k i => constablelaw03_Many.l0 k l i) _ ?_ ?_
    · refine evShift ?_
      simp only [constablelaw03_Many.l0]
      refine evNeg (by omega) (evSome ?_)
      rw [List.drop_length]; rfl
    · intro i hi ih
      refine evShift ?_
      simp only [constablelaw03_Many.l0, rdF_nth l i hi]
      rw [List.drop_eq_getElem_cons hi, wrap_succ hi (by omega), List.any_cons]
      refine evPos (by omega) (evPos (by omega) (Ev.bind (heavy_ev l[i]) ?_))
      cases heavyF l[i] with
      | true => exact evPos rfl (evSome rfl)
      | false => exact evNeg (by decide) ih
  exact h 0 (Nat.zero_le _)
theorem light_facts {l : List S24} (h : manyF l = false) : l.length ≤ 60 ∧ ∀ f ∈ l, FactOk f := by
  unfold manyF at h
  simp only [Bool.or_eq_false_iff, decide_eq_false_iff_not, List.any_eq_false] at h
  exact ⟨by omega, fun f hf => light_fact (by have := h.2 f hf; simpa using this)⟩
theorem twin_eq (f : S24) (hf : f.f1.length ≤ 1000) : constablekeep_TwinFact.f f.f0 f.f1 = some (f.f0, f.f1) := by
  unfold constablekeep_TwinFact.f
  rw [if_pos (by simp; omega)]
  simp
end Go.Proofs.YtaopajmpifenoaaDoor.P
end
section
namespace Go.Proofs.YtaopajmpifenoaaDoor.P
open Go.RowKit Go.Proofs.YtaopajmpifenoaaDoorW.PrintWords Go.Proofs.YtaopajmpifenoaaDoorW.PrintLast Go.Proofs.YtaopajmpifenoaaDoorW.PrintMore
theorem wakes03_ev : Ev (fun k => constablelaw03_wakes.f k) true := Ev.of (constablelaw03_wakes.mono) (k := 60) (by decide +kernel)
theorem wakesEnd {g : Nat → Option Bool} (h : Ev g true) : Ev (fun k => (g k).bind fun t => some t) true := Ev.bind h (evSome rfl)
end Go.Proofs.YtaopajmpifenoaaDoor.P
end
section
namespace Go.Proofs.YtaopajmpifenoaaDoor.P
open Go.RowKit Go.Proofs.YtaopajmpifenoaaDoorW.PrintWords Go.Proofs.YtaopajmpifenoaaDoorW.PrintLast Go.Proofs.YtaopajmpifenoaaDoorW.PrintMore
structure Opens {α : Type} (d : Kd α) (P : Program) (t : TypeId) (ok : α → Prop) : Prop where
  cells : P.cellsOf t = d.sz
  opens : ∀ {H : Type} {enc : TypeId × Value → H} {w : World} {base : Nat} {spare : Nat → Bool} {held : Bool} {fuel : Nat} {cs : List Value} {x : DataW H × List MemPlace},
    DataW.trod enc P w base spare held fuel t cs = some x → ∃ v, d.K w v cs ∧ ok v
theorem Opens.mono {α : Type} {d : Kd α} {P : Program} {t : TypeId} {ok ok' : α → Prop} (h : Opens d P t ok) (hm : ∀ v, ok v → ok' v) : Opens d P t ok' :=
  ⟨h.cells, fun hx => by obtain ⟨v, h1, h2⟩ := h.opens hx; exact ⟨v, h1, hm v h2⟩⟩
theorem Opens.int {k : IntKind} {P : Program} {t : TypeId} (hu : P.underlying t = some (.int k)) (hc : P.cellsOf t = 1) : Opens (Kd.int k) P t (fun n => (Lit.int k n).wf = true) :=
  ⟨hc, fun hx => by obtain ⟨m, rfl, rfl, hw⟩ := DataW.trod_int hu hx; exact ⟨m, rfl, hw⟩⟩
theorem Opens.string {P : Program} {t : TypeId} (hu : P.underlying t = some .string) (hc : P.cellsOf t = 1) : Opens Kd.string P t (fun s => s.size ≤ maxLen) :=
  ⟨hc, fun hx => by obtain ⟨s, rfl, _, hw⟩ := DataW.trod_string hu hx; exact ⟨s, rfl, hw⟩⟩
theorem Opens.bool {P : Program} {t : TypeId} (hu : P.underlying t = some .bool) (hc : P.cellsOf t = 1) : Opens Kd.bool P t (fun _ => True) :=
  ⟨hc, fun hx => by obtain ⟨b, rfl, _⟩ := DataW.trod_bool hu hx; exact ⟨b, rfl, trivial⟩⟩
theorem Opens.iso {α β : Type} {d : Kd α} {P : Program} {t : TypeId} {ok : α → Prop} {f : β → α} (g : α → β) (hg : ∀ a, f (g a) = a) (h : Opens d P t ok) : Opens (Kd.iso d f) P t (fun b => ok (f b)) :=
  ⟨h.cells, fun hx => by
    obtain ⟨v, h1, h2⟩ := h.opens hx
    refine ⟨g v, ?_, ?_⟩
    · show d.K _ (f (g v)) _
      rw [hg]; exact h1
    · show ok (f (g v))
      rw [hg]; exact h2⟩
structure OpensFs {α : Type} (d : Kd α) (P : Program) (fs : List Field) (off : Nat) (ok : α → Prop) : Prop where
  opens : ∀ {H : Type} {enc : TypeId × Value → H} {w : World} {base : Nat} {spare : Nat → Bool} {held : Bool} {fuel : Nat} {cs : List Value},
    off + d.sz = cs.length → (∀ (i : Nat) (f : Field), fs[i]? = some f → ∃ x, DataW.trod enc P w base spare held fuel f.type ((cs.drop f.offset).take (P.cellsOf f.type)) = some x) → ∃ v, d.K w v (cs.drop off) ∧ ok v
theorem OpensFs.one {α : Type} {d : Kd α} {P : Program} {f : Field} {off : Nat} {ok : α → Prop} (ho : f.offset = off) (h : Opens d P f.type ok) : OpensFs d P [f] off ok := by
  refine ⟨?_⟩
  intro H enc w base spare held fuel cs hl hx
  obtain ⟨x, hx⟩ := hx 0 f rfl
  rw [ho, h.cells, List.take_of_length_le (by simp; omega)] at hx
  exact h.opens hx
theorem OpensFs.cons {α β : Type} {d : Kd α} {d' : Kd β} {P : Program} {f : Field} {fs : List Field} {off : Nat} {ok : α → Prop} {ok' : β → Prop} {ok2 : α × β → Prop} (ho : f.offset = off) (h : Opens d P f.type ok) (h' : OpensFs d' P fs (off + d.sz) ok') (hk : ∀ v, ok v.1 → ok' v.2 → ok2 v) :
    OpensFs (Kd.pair d d') P (f :: fs) off ok2 := by
  refine ⟨?_⟩
  intro H enc w base spare held fuel cs hl hx
  obtain ⟨x, hx0⟩ := hx 0 f rfl
  rw [ho, h.cells] at hx0
  obtain ⟨v, hv, ov⟩ := h.opens hx0
  have hl' : off + (d.sz + d'.sz) = cs.length := hl
  obtain ⟨u, hu, ou⟩ := h'.opens (cs := cs) (by omega) (fun i g hg => hx (i + 1) g hg)
  refine ⟨(v, u), ⟨(cs.drop off).take d.sz, cs.drop (off + d.sz), ?_, hv, hu⟩, hk (v, u) ov ou⟩
  rw [← List.drop_drop, List.take_append_drop]
theorem Opens.struct {α : Type} {d : Kd α} {P : Program} {t : TypeId} {fs : Array Field} {ok : α → Prop} (hu : P.underlying t = some (.struct fs)) (hc : P.cellsOf t = d.sz) (h : OpensFs d P fs.toList 0 ok) : Opens d P t ok := by
  refine ⟨hc, ?_⟩
  intro H enc w base spare held fuel cs x hx
  obtain ⟨xs, n, rfl, _, hl, hxl, hf⟩ := DataW.trod_struct hu hx
  have := h.opens (cs := cs) (enc := enc) (w := w) (base := base) (spare := spare) (held := held) (fuel := n) (by omega) (by
    intro i f hi
    have hi' : fs[i]? = some f := by simpa using hi
    have hlt : i < xs.length := by
      rw [hxl]
      exact (Array.getElem?_eq_some_iff.1 hi').1
    exact ⟨xs[i], by rw [hf i f hi', List.getElem?_eq_getElem hlt]⟩)
  simpa using this
theorem list_of {α : Type} {Q : Nat → α → Prop} : ∀ n : Nat, (∀ i, i < n → ∃ v, Q i v) → ∃ l : List α, l.length = n ∧ ∀ i v, l[i]? = some v → Q i v := by
  intro n
  induction n with
  | zero => intro _; exact ⟨[], rfl, fun i v h => by simp at h⟩
  | succ n ih =>
    intro h
    obtain ⟨l, hl, hq⟩ := ih (fun i hi => h i (by omega))
    obtain ⟨v, hv⟩ := h n (by omega)
    refine ⟨l ++ [v], by simp [hl], ?_⟩
    intro i u hu
    by_cases hi : i < l.length
    · rw [List.getElem?_append_left hi] at hu
      exact hq i u hu
    · rw [List.getElem?_append_right (by omega)] at hu
      have h0 : i - l.length = 0 := by
        by_cases h0 : i - l.length = 0
        · exact h0
        · rw [List.getElem?_eq_none (by simp; omega)] at hu; cases hu
      rw [h0] at hu
      simp at hu
      subst hu
      have : i = n := by omega
      subst this
      exact hv
theorem Opens.row {α : Type} {d : Kd α} {P : Program} {t e : TypeId} {ok : α → Prop} (h : Opens d P e ok) (hu : P.underlying t = some (.slice e))
    {H : Type} {enc : TypeId × Value → H} {w : World} {base : Nat} {spare : Nat → Bool} {held : Bool} {fuel : Nat} {A : Option Addr} {len cap : Nat} {x : DataW H × List MemPlace}
    (hx : DataW.trod enc P w base spare held fuel t [.slice A len cap] = some x) : ∃ l, l.length = len ∧ d.C w A len l ∧ len ≤ cap ∧ cap ≤ maxLen ∧ ∀ v ∈ l, ok v := by
  rcases DataW.trod_slice hu hx with ⟨hcs, _⟩ | ⟨a, len', cap', elems, rest, n, rfl, hcs, _, hb, hl, hm, hlen, hel, _⟩
  · simp only [List.cons.injEq, Value.slice.injEq, and_true] at hcs
    obtain ⟨rfl, rfl, rfl⟩ := hcs
    exact ⟨[], rfl, ⟨rfl, by omega, fun h => by omega⟩, Nat.le_refl _, by unfold maxLen; omega, fun v hv => by simp at hv⟩
  · simp only [List.cons.injEq, Value.slice.injEq, and_true] at hcs
    obtain ⟨rfl, rfl, rfl⟩ := hcs
    obtain ⟨l, hll, hq⟩ := list_of (Q := fun i v => ∃ cs, w.cells? base (a.add (i * P.cellsOf e)) (P.cellsOf e) = some cs ∧ d.K w v cs ∧ ok v) len (by
      intro i hi
      have h1 := hel i hi
      rw [List.getElem?_eq_getElem (by omega), Option.bind_eq_some_iff] at h1
      obtain ⟨cs, h2, h3⟩ := h1
      obtain ⟨v, h4, h5⟩ := h.opens h3
      exact ⟨v, cs, h2, h4, h5⟩)
    refine ⟨l, hll, ⟨hll, by unfold maxLen at hm; omega, fun _ => ⟨a, rfl, ?_⟩⟩, hl, hm, ?_⟩
    · intro j p hp
      obtain ⟨cs, h2, h4, _⟩ := hq j p hp
      obtain ⟨_, h6, h7⟩ := World.cells?_some h2
      refine ⟨cs, by rw [h6, h.cells], h4, ?_⟩
      intro i u hi
      have hlt : i < P.cellsOf e := by rw [← h6]; exact (List.getElem?_eq_some_iff.1 hi).1
      have h8 := h7 i hlt
      rw [Addr.add_add, h.cells, hi] at h8
      exact h8
    · intro v hv
      obtain ⟨i, hi⟩ := List.getElem?_of_mem hv
      obtain ⟨_, _, _, h5⟩ := hq i v hi
      exact h5
theorem Opens.slice {α : Type} {d : Kd α} {P : Program} {t e : TypeId} {ok : α → Prop} (h : Opens d P e ok) (hu : P.underlying t = some (.slice e)) (hc : P.cellsOf t = 1) : Opens (Kd.slice e d) P t (fun l => l.length ≤ maxLen ∧ ∀ v ∈ l, ok v) := by
  refine ⟨hc, ?_⟩
  intro H enc w base spare held fuel cs x hx
  have hx0 := hx
  rcases DataW.trod_slice hu hx with ⟨hcs, _⟩ | ⟨a, len', cap', elems, rest, n, rfl, hcs, _⟩ <;> subst hcs
  all_goals
    obtain ⟨l, h1, h2, h3, h4, h5⟩ := h.row hu hx0
    have h6 := Nat.le_trans h3 h4
    rw [← h1] at h2 h3 h6 ⊢
    exact ⟨l, ⟨_, _, rfl, h3, h2⟩, h6, h5⟩
theorem Opens.arg {α : Type} {d : Kd α} {P : Program} {t e : TypeId} {ok : α → Prop} (h : Opens d P e ok) (hu : P.underlying t = some (.slice e)) {B : Nat} (hB : P.bytesOf e = B)
    {H : Type} {enc : TypeId × Value → H} {w : World} {base : Nat} {spare : Nat → Bool} {held : Bool} {a : Option Addr} {len cap : Nat} {x : DataW H} {ps : List MemPlace} {ts : List TypeId} {ds : List (DataW H)} {j : Nat}
    (hsz : (DataW.weightsEach P ts ds).all (· ≤ reachBytes) = true) (ht : ts[j]? = some t) (hd : ds[j]? = some x)
    (hx : DataW.Trod enc P w base spare held t (.slice a len cap) x ps) : ∃ l, l.length = len ∧ d.C w a len l ∧ len ≤ cap ∧ (len ≤ maxLen ∧ len * B ≤ 140737488351232) ∧ ∀ v ∈ l, ok v := by
  obtain ⟨fuel, hf⟩ := hx
  have hf' : DataW.trod enc P w base spare held fuel t [.slice a len cap] = some (x, ps) := hf
  obtain ⟨l, h1, h2, h3, h4, h5⟩ := h.row hu hf'
  refine ⟨l, h1, h2, h3, ⟨Nat.le_trans h3 h4, ?_⟩, h5⟩
  rcases DataW.trod_slice hu hf' with ⟨hcs, _⟩ | ⟨a', len', cap', elems, rest, n, _, hcs, hxx, _, hl, _, hlen, _⟩
  · simp only [List.cons.injEq, Value.slice.injEq, and_true] at hcs
    obtain ⟨_, rfl, _⟩ := hcs
    omega
  · simp only [List.cons.injEq, Value.slice.injEq, and_true] at hcs
    obtain ⟨_, rfl, _⟩ := hcs
    obtain ⟨rfl, _⟩ := Prod.mk.inj hxx
    have z := sized_slice hsz ht hd hu
    rw [hB] at z
    have : len ≤ (elems.map (·.1)).length + (rest.map (·.1)).length := by simp; omega
    exact Nat.le_trans (Nat.mul_le_mul_right _ this) z
theorem Opens.agg {α : Type} {d : Kd α} {P : Program} {t : TypeId} {ok : α → Prop} (h : Opens d P t ok) {fs : Array Field} (hu : P.underlying t = some (.struct fs))
    {H : Type} {enc : TypeId × Value → H} {w : World} {r : Reach} {base b0 : Nat} {spare : Nat → Bool} {held : Bool} {v : Value} {x : DataW H} {ps : List MemPlace}
    (hv : Value.okWide P w r b0 t v) (hx : DataW.Trod enc P w base spare held t v x ps) : ∃ u cs, v = .agg ⟨cs⟩ ∧ d.K w u cs ∧ ok u := by
  obtain ⟨cs, rfl, _⟩ := Go.WideShapes.okWide_struct hu hv
  obtain ⟨fuel, hf⟩ := hx
  obtain ⟨u, h1, h2⟩ := h.opens hf
  exact ⟨u, cs.toList, rfl, h1, h2⟩
end Go.Proofs.YtaopajmpifenoaaDoor.P
end
section
namespace Go.Proofs.YtaopajmpifenoaaDoor.P
open Go.RowKit Go.Proofs.YtaopajmpifenoaaDoorW.PrintWords Go.Proofs.YtaopajmpifenoaaDoorW.PrintLast Go.Proofs.YtaopajmpifenoaaDoorW.PrintMore
theorem o3 : Opens (Kd.int .i64) Tryd.prog 3 (fun x => (Lit.int .i64 x).wf = true) := Opens.int Tryd.underlying3 (by kernel_rfl)
theorem o9 : Opens Kd.string Tryd.prog 9 (fun x => x.size ≤ maxLen) := Opens.string Tryd.underlying9 (by kernel_rfl)
def ok44 (x : S44) : Prop := (Lit.int .i64 x.f0).wf = true ∧ (Lit.int .i64 x.f1).wf = true ∧ x.f2.size ≤ maxLen
theorem o44 : Opens k44 Tryd.prog 44 ok44 := by
  have h1 := Opens.struct (d := (Kd.pair (Kd.int .i64) (Kd.pair (Kd.int .i64) Kd.string))) (ok := fun a => (Lit.int .i64 a.1).wf = true ∧ (Lit.int .i64 a.2.1).wf = true ∧ a.2.2.size ≤ maxLen) Tryd.underlying44 (by kernel_rfl) (OpensFs.cons (ok2 := fun a : (Int) × (Int) × (ByteArray) => (Lit.int .i64 a.1).wf = true ∧ (Lit.int .i64 a.2.1).wf = true ∧ a.2.2.size ≤ maxLen) (ok' := fun a : (Int) × (ByteArray) => (Lit.int .i64 a.1).wf = true ∧ a.2.size ≤ maxLen) (by rfl) o3 (OpensFs.cons (ok2 := fun a : (Int) × (ByteArray) => (Lit.int .i64 a.1).wf = true ∧ a.2.size ≤ maxLen) (ok' := fun a : (ByteArray) => a.size ≤ maxLen) (by rfl) o3 (OpensFs.one (by rfl) o9) (fun v h1 h2 => ⟨h1, h2⟩)) (fun v h1 h2 => ⟨h1, h2⟩))
  exact Opens.mono (Opens.iso (fun a => ⟨a.1, a.2.1, a.2.2⟩) (fun _ => rfl) h1) (fun _ h => h)
theorem kc44 {w : World} {v : S44} {cs : List Value} (h : k44.K w v cs) : cs = [.int .i64 v.f0, .int .i64 v.f1, .string v.f2] := by
  have h0 : ((Kd.pair (Kd.int .i64) (Kd.pair (Kd.int .i64) Kd.string))).K w (v.f0, v.f1, v.f2) cs := h
  obtain ⟨c0, d0, rfl, g0, h1⟩ := h0
  obtain rfl := g0
  obtain ⟨c1, d1, rfl, g1, h2⟩ := h1
  obtain rfl := g1
  obtain rfl := h2
  exact rfl
theorem o22 : Opens (Kd.slice 44 k44) Tryd.prog 22 (fun x => (x.length ≤ maxLen ∧ ∀ v ∈ x, ok44 v)) := Opens.slice o44 Tryd.underlying22 (by kernel_rfl)
def ok24 (x : S24) : Prop := x.f0.size ≤ maxLen ∧ (x.f1.length ≤ maxLen ∧ ∀ v ∈ x.f1, ok44 v)
theorem o24 : Opens k24 Tryd.prog 24 ok24 := by
  have h1 := Opens.struct (d := (Kd.pair Kd.string (Kd.slice 44 k44))) (ok := fun a => a.1.size ≤ maxLen ∧ (a.2.length ≤ maxLen ∧ ∀ v ∈ a.2, ok44 v)) Tryd.underlying24 (by kernel_rfl) (OpensFs.cons (ok2 := fun a : (ByteArray) × (List (S44)) => a.1.size ≤ maxLen ∧ (a.2.length ≤ maxLen ∧ ∀ v ∈ a.2, ok44 v)) (ok' := fun a : (List (S44)) => (a.length ≤ maxLen ∧ ∀ v ∈ a, ok44 v)) (by rfl) o9 (OpensFs.one (by rfl) o22) (fun v h1 h2 => ⟨h1, h2⟩))
  exact Opens.mono (Opens.iso (fun a => ⟨a.1, a.2⟩) (fun _ => rfl) h1) (fun _ h => h)
theorem kc24 {w : World} {v : S24} {cs : List Value} (h : k24.K w v cs) : ∃ A0 c0, cs = [.string v.f0, .slice A0 v.f1.length c0] ∧ v.f1.length ≤ c0 ∧ Kd.C k44 w A0 v.f1.length v.f1 := by
  have h0 : ((Kd.pair Kd.string (Kd.slice 44 k44))).K w (v.f0, v.f1) cs := h
  obtain ⟨c0, d0, rfl, g0, h1⟩ := h0
  obtain rfl := g0
  obtain ⟨B1, e1, rfl, l1, r1⟩ := h1
  exact ⟨B1, e1, rfl, l1, r1⟩
end Go.Proofs.YtaopajmpifenoaaDoor.P
end
section
namespace Go.Proofs.YtaopajmpifenoaaDoor.Pure
open Go.RowKit Go.Proofs.YtaopajmpifenoaaDoor.P Go.Proofs.YtaopajmpifenoaaDoorW.PrintWords Go.Proofs.YtaopajmpifenoaaDoorW.PrintLast Go.Proofs.YtaopajmpifenoaaDoorW.PrintMore
theorem FactExact (a b : S24) (l m : List S24) (s : ByteArray) (_ho0 : ok24 a) (_ho1 : ok24 b) (_hz2 : l.length ≤ maxLen ∧ l.length * 40 ≤ 140737488351232) (_ho2 : ∀ v ∈ l, ok24 v) (_hz3 : m.length ≤ maxLen ∧ m.length * 40 ≤ 140737488351232) (_ho3 : ∀ v ∈ m, ok24 v) (_w4 : s.size ≤ 140737488351232) :
    ∃ k, constablelaw03_FactExact.f k a.f0 a.f1 b.f0 b.f1 l m s = some true := by
  refine Ev.rounds (r := true) ?_
  have hwk := wakesEnd wakes03_ev
  unfold constablelaw03_FactExact.f
  have hj : Ev (fun k => constablelaw03_FactExact.j0 k l m s true a.f0 a.f1 b.f0 b.f1) true := by
    refine evShift ?_
    simp only [constablelaw03_FactExact.j0, if_true]
    exact evSome rfl
  refine Ev.bind (heavy_ev a) (evCond (fun _ => hj) (fun h1 => Ev.bind (heavy_ev b) (evCond (fun _ => hj) (fun h2 => Ev.bind (many_ev l) (evCond (fun _ => hj) (fun h3 => Ev.bind (many_ev m) (evCond (fun _ => hj) (fun h4 => ?_))))))))
  by_cases h5 : (s.size : Int) > 200
  · rw [decide_eq_true h5]; exact hj
  rw [decide_eq_false h5]
  have oa := light_fact h1
  have ob := light_fact h2
  obtain ⟨ll, ol⟩ := light_facts h3
  obtain ⟨lm, om⟩ := light_facts h4
  have la : a.f1.length ≤ 1000 := Nat.le_trans oa.2.1 (by decide)
  refine evShift ?_
  simp only [constablelaw03_FactExact.j0, Bool.false_eq_true, if_false, twin_eq a la, Option.bind_some]
  have hs : s.size ≤ maxLen := by unfold maxLen; omega
  refine Ev.bind (fact_Text_ev a oa) (Ev.bind (fact_Name_ev s hs) (Ev.bind (ref_Name_ev s hs) (evNeg (by rw [bne_self_eq_false]; decide) (Ev.bind (fact_Compare_ev a b la) (Ev.bind (ref_Facts_ev a b oa ob) (evPos rfl (Ev.bind (facts_ev l m (by omega) (fun f hf => Nat.le_trans (ol f hf).2.1 (by decide))) (Ev.bind (ref_Lists_ev l m (by omega) (by omega) ol om) (evPos rfl (Ev.bind (keep_Fact_same a la) ?_))))))))))
  show Ev (fun k => constablelaw03_FactExact.j1 k (if factS a then (mkB (factU a), (0 : Int)) else (⟨#[]⟩, 1)).1 (if factS a then (mkB (factU a), (0 : Int)) else (⟨#[]⟩, 1)).2 false a.f0 a.f1 a.f0 a.f1) true
  refine evShift ?_
  simp only [constablelaw03_FactExact.j1, Bool.false_eq_true, if_false]
  refine Ev.bind (ref_Fact_ev a oa) ?_
  have hc := fact_Check_ev a oa
  cases h : factS a with
  | true =>
    rw [h] at hc
    exact evPos rfl (Ev.bind hc (evPos rfl (evPos rfl (Ev.bind (ref_FactText_ev a oa h) (evPos rfl hwk)))))
  | false =>
    rw [h] at hc
    exact evNeg (by decide) (Ev.bind hc (evPos rfl (evPos rfl (evPos (tl_nil.2 rfl) hwk))))
end Go.Proofs.YtaopajmpifenoaaDoor.Pure
end
section
namespace Go.Proofs.YtaopajmpifenoaaDoor.P
open Go.RowKit Go.Lib
theorem pow_datum : (Rows.laid_internal_strconv_uint64pow10 : DataW Unit) = Lib.tabData .u64 Lib.pow10Tab := by kernel_rfl
theorem laidT_of {r : List (String × DataW Unit)} {W : World} (h : laidMet Tryd.prog (("internal/strconv.uint64pow10", Rows.laid_internal_strconv_uint64pow10) :: r) W) : LaidT W := by
  rw [pow_datum] at h
  exact tabIs_of_head (g := 3) (by kernel_rfl) (by kernel_rfl) Tryd.underlying115 Tryd.underlying103 (by kernel_rfl) (by kernel_rfl) h
theorem star_es : "*" ++ "errors.errorString" = "*errors.errorString" := by decide
theorem row_es (u : TypeId) (h : Tryd.prog.typeName? 3 u = some "*errors.errorString") : u = 120 :=
  typeName_ptr_named (nm := "errors.errorString") (by rw [star_es]; kernel_rfl) (by kernel_rfl) (by decide) u (by rw [star_es]; exact h)
theorem globRan_of {r : List (String × DataW Unit)} {W : World} (h : laidMet Tryd.prog (("strconv.ErrRange", Rows.laid_strconv_ErrRange) :: r) W) : ∃ tp p, W.var? Tryd.prog "strconv.ErrRange" = some #[.iface tp p] := by
  obtain ⟨a, s, hv, _⟩ := laid_sentinel (g := 2) h (by kernel_rfl) (by kernel_rfl) Tryd.underlying72 row_es Tryd.underlying120 Tryd.underlying122 rfl rfl Tryd.underlying9 (by kernel_rfl) (by kernel_rfl)
  exact ⟨_, _, hv⟩
theorem globSyn_of {r : List (String × DataW Unit)} {W : World} (h : laidMet Tryd.prog (("strconv.ErrSyntax", Rows.laid_strconv_ErrSyntax) :: r) W) : ∃ tp p, W.var? Tryd.prog "strconv.ErrSyntax" = some #[.iface tp p] := by
  obtain ⟨a, s, hv, _⟩ := laid_sentinel (g := 1) h (by kernel_rfl) (by kernel_rfl) Tryd.underlying72 row_es Tryd.underlying120 Tryd.underlying122 rfl rfl Tryd.underlying9 (by kernel_rfl) (by kernel_rfl)
  exact ⟨_, _, hv⟩
end Go.Proofs.YtaopajmpifenoaaDoor.P
end
