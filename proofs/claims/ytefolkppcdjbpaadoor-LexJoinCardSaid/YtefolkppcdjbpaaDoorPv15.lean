/- Part of the proof of LexJoin. -/
import Derived.Test.YtefolkppcdjbpaaDoorPv14
namespace Go.PV
open Go Go.RowKit
section
variable {P : Program} {nt : Nat} {o : Oper}
def isBase (ops : List Oper) (d : Option Nat) : Bool := match d with
  | none => false
  | some d => ops.any fun o => match o.op with
    | .call c => match c.callee, c.args.toList with
      | .builtin .append, .tmp t :: _ => Nat.beq t d
      | _, _ => false
    | _ => false
def prTrunc (P : Program) (nt : Nat) (o : Oper) (t : TypeId) (id gen : Nat) (m : Int) : Pr := match P.underlying t with
  | some (.slice e) => szK P e fun _ => arrK id gen fun sh n xs => match sh with
    | true => .fail
    | false => .ex PUnit (fun _ => 0 ≤ m ∧ m ≤ xs.length) fun _ => .putO id (.arr (gen + 1) false n (xs.take m.toNat)) (setD nt o.dst (.own id (gen + 1)) .done)
  | _ => .fail
def prSlice (P : Program) (nt : Nat) (ops : List Oper) (o : Oper) (t : TypeId) (x : Operand) (lo hi mx : Option Operand) : Pr := match mx with
  | some _ => .fail
  | none => rdV x fun v => optV lo fun a => optV hi fun b => match v with
    | .str l => prCutStr P nt o t l a b
    | .sl n xs => prCutSl P nt o t n xs a b
    | .own id gen => match a, b, isBase ops o.dst with
      | none, some m, true => prTrunc P nt o t id gen m
      | none, some m, false => .ex Bool (fun _ => True) fun c => match c with
        | true => prTrunc P nt o t id gen m
        | false => shK (.own id gen) fun p => match p with
          | .sl n xs => prCutSl P nt o t n xs a b
          | _ => .fail
      | _, _, _ => shK (.own id gen) fun p => match p with
        | .sl n xs => prCutSl P nt o t n xs a b
        | _ => .fail
    | _ => .fail
theorem prSlice_ok [Env P] {ops : List Oper} {t : TypeId} {x : Operand} {lo hi mx : Option Operand} (ho : o.op = .slice t x lo hi mx) : OpS P nt o (prSlice P nt ops o t x lo hi mx) := by
  intro E G s a w K next Q hnt hR hm hn
  unfold prSlice at hm
  split at hm
  · exact hm.elim
  simp only [rdV_mwp] at hm
  have hx := ev_sound hR x
  obtain ⟨m, hbm, hm⟩ := optV_bnd hR hm
  obtain ⟨n, hbn, hm⟩ := optV_bnd hR hm
  have fin : ∀ {G : Gh} {s : St}, RG E G s a w → (∃ p v, (setD nt o.dst p .done).mwp s K ∧ (execOp a.eval o).run P w = .ok (.value v) w ∧ RV G w s.O p v) → o.wp P a w next Q := by
    rintro G s hR ⟨p, v, h1, h2, h3⟩
    obtain ⟨s', hk, hR'⟩ := setD_put hnt hR h3 h1
    exact opwp_value h2 (hn _ _ _ hk ⟨G, hR'⟩)
  have shared : ∀ {id gen : Nat}, RV G w s.O (.own id gen) (a.eval x) → (shK (.own id gen) fun p => match p with
        | .sl c xs => prCutSl P nt o t c xs m n
        | _ => .fail).mwp s K → o.wp P a w next Q := by
    intro id gen hx h
    obtain ⟨G', s', p, hR', hle, hV, h, hp⟩ := shK_ok hR (by cases hx with | any _ _ hx => exact hx.not_agg (by simp)) h
    split at h
    · exact fin hR' (cut_sl ho (.of_sh hp) hbm hbn h)
    · exact h.elim
  have trunc : ∀ {id gen : Nat} {k : Int}, n = some k → m = none → RV G w s.O (.own id gen) (a.eval x) → (prTrunc P nt o t id gen k).mwp s K → o.wp P a w next Q := by
    intro id gen k en em hx h
    subst en; subst em
    unfold prTrunc at h
    split at h
    · rename_i e ht
      obtain ⟨ie, hie, h⟩ := szK_spec h
      obtain ⟨sh, c, xs, hO, h⟩ := arrK_spec h
      split at h
      · exact h.elim
      obtain ⟨_, ⟨h0, h1⟩, h⟩ := h
      simp only [Pr.mwp] at h
      have hlen : (xs.take k.toNat).length = k.toNat := by simp; omega
      have hv := hx.own_inv hO
      have run : ∀ {ad : Option Addr} {len cap : Nat}, a.eval x = .slice ad len cap → (ad = none ∨ ∃ b, ad = some ⟨b, 0, none⟩) → len = xs.length → len ≤ cap → (execOp a.eval o).run P w = .ok (.value (.slice ad k.toNat cap)) w := by
        intro ad len cap e1 e2 e3 e4
        subst e3
        have hb := run_sliceBounds (P := P) (sl := true) w hbm hbn (show cutOk xs.length none (some k) from ⟨h0, h1⟩) e4
        have e5 : (if cap = 0 then ad else ad.map (·.add (0 * ie.size))) = ad := by
          split
          · rfl
          · rcases e2 with rfl | ⟨b, rfl⟩
            · rfl
            · simp [Addr.add]
        simp only [execOp, ho, e1, Instr.sliceAt, Instr.slice, Sem.run_bind, run_underlying ht, Result.andThen_ok, hb, Option.map_none, run_sizeOf hie, Sem.run_pure, loOf, hiOf, Nat.sub_zero, e5]
      have hO' : (s.putO id (.arr (gen + 1) false c (xs.take k.toNat))).O id = some (.arr (gen + 1) false c (xs.take k.toNat)) := by rw [St.O_putO, if_pos rfl]
      cases hR.ob id _ hO with
      | nil _ _ _ hnl =>
        rw [hdr, hnl] at hv
        have hk0 : k.toNat = 0 := by simp at h1; omega
        rw [List.take_nil] at h hO'
        have hR' : RG E G (s.putO id (.arr (gen + 1) false c [])) a w := sam_rg hR hO (.inl (hR.arr_bx hO)) (.inl (Nat.lt_succ_self _)) (.nil _ _ _ hnl)
        obtain ⟨s', hk, hR2⟩ := setD_put hnt hR' (nilOwn hnl hO') h
        exact opwp_value (by have := run hv (.inl rfl) rfl (Nat.le_refl _); rw [hk0] at this; exact this) (hn _ _ _ hk ⟨_, hR2⟩)
      | arr _ _ _ _ cs T lim hnl hb hw hpos hl hc hz hs ht' hh =>
        rw [hdr, hnl] at hv
        have hlim := hs rfl
        subst hlim
        have hst : ∀ off c', stab G w (G.blk id) off c' → off < 0 ∧ w.cell? ⟨G.blk id, off, none⟩ = some c' := fun off c' hoc => by
          have := hoc.1 0 (by rw [hw]); omega
        have hlimG : limG G id 0 = G := by
          have : upd G.own (G.blk id) ⟨some id, some 0⟩ = G.own := by funext j; unfold upd; split <;> simp_all
          simp [limG, this]
        have hle := limG_le (G := G) (s := s) (o' := .arr (gen + 1) false c (xs.take k.toNat)) hO (fun _ _ => rfl) hst (.inl (Nat.lt_succ_self _))
        rw [hlimG] at hle
        have hget : ∀ (i : Nat) (y : List V), (xs.take k.toNat)[i]? = some y → xs[i]? = some y := fun i y hi => by
          rw [List.getElem?_take] at hi; split at hi
          · exact hi
          · cases hi
        have hR' := limG_rg (o' := .arr (gen + 1) false c (xs.take k.toNat)) hR hO (.inl (hR.arr_bx hO)) (.inl hnl) (fun _ _ => rfl) rfl rfl rfl rfl hst (.inl (Nat.lt_succ_self _)) (by
          rw [hlimG]
          exact .arr _ _ _ _ cs T 0 hnl hb hw hpos (fun i y hi => hl i y (hget i y hi)) (by rw [hlen]; omega) hz (fun _ => rfl) (Nat.zero_le _) (fun i y j p hi hj => let ⟨q, q1, q2⟩ := hh i y j p (hget i y hi) hj; ⟨q, q1, q2.mono hle.hs⟩))
        have hv2 : RV (limG G id 0) w (s.putO id (.arr (gen + 1) false c (xs.take k.toNat))).O (.own id (gen + 1)) (.slice (some ⟨G.blk id, 0, none⟩) k.toNat (G.cap id)) := by
          refine .any _ _ (.cell _ _ (.own _ _ _ _ rfl hO' (Nat.le_refl _) fun c' len _ e => ?_))
          simp only [Ob.sig, Option.some.injEq, Prod.mk.injEq, hlen] at e
          simp [hdr, limG, hnl, e.2]
        obtain ⟨s', hk, hR2⟩ := setD_put hnt hR' hv2 h
        exact opwp_value (run hv (.inr ⟨_, rfl⟩) rfl hc) (hn _ _ _ hk ⟨_, hR2⟩)
    · exact h.elim
  split at hm
  · rename_i l e1
    rw [e1] at hx
    exact fin hR (cut_str ho hx hbm hbn hm)
  · rename_i c xs e1
    rw [e1] at hx
    exact fin hR (cut_sl ho hx hbm hbn hm)
  · rename_i id gen e1
    rw [e1] at hx
    split at hm
    · exact trunc rfl rfl hx hm
    · obtain ⟨c, _, hm⟩ := hm
      dsimp only at hm
      split at hm
      · exact trunc rfl rfl hx hm
      · exact shared hx hm
    · exact shared hx hm
  · exact hm.elim
/-- a function value -/
def prFn (nt : Nat) (o : Oper) (f : FuncId) (caps : List Operand) : Pr := rdVs caps fun vs => match vs.all (fun v => match v with | .dead => false | .agg _ => false | .tup _ => false | .elp _ _ _ _ => false | .rp _ => false | _ => true) with
  | true => setD nt o.dst (.fn f vs) .done
  | false => .fail
theorem prFn_ok [Env P] {f : FuncId} {caps : Array Operand} (ho : o.op = .makeFunc (.func f) #[] caps) : OpS P nt o (prFn nt o f caps.toList) := by
  refine .pure fun E G s a w K hR hm => ?_
  simp only [prFn, rdVs_mwp] at hm
  split at hm
  · rename_i hall
    refine ⟨_, .func (.func f) #[] (caps.map a.eval), hm, by simp [execOp, ho, Instr.makeFunc], .any _ _ (.cell _ _ (.fn _ _ _ (fun i => (caps.map a.eval).getD i undef) (by simp) (fun i hi => ?_) (fun i p hi => ?_)))⟩
    · have : i < (caps.map a.eval).size := by simpa using hi
      rw [Array.getElem?_eq_getElem this, Array.getD_eq_getD_getElem?, Array.getElem?_eq_getElem this]; rfl
    · have hp := List.all_eq_true.1 hall p (List.mem_of_getElem? hi)
      rw [List.getElem?_map] at hi
      cases hc : caps.toList[i]? with
      | none => rw [hc] at hi; cases hi
      | some x =>
        rw [hc] at hi; simp only [Option.map_some, Option.some.injEq] at hi; subst hi
        have hx := ev_sound hR x
        have e : (caps.map a.eval).getD i undef = a.eval x := by
          rw [Array.getD_eq_getD_getElem?, Array.getElem?_map, ← Array.getElem?_toList, hc]; rfl
        rw [e]
        revert hp hx
        generalize s.ev x = q
        generalize a.eval x = u
        intro hp hx
        cases hx with
        | dead => simp at hp
        | any _ _ h => cases h with
          | cell _ _ h => exact h
          | agg => simp at hp
        | tup => simp at hp
        | elp => simp at hp
        | rp => simp at hp
  · exact hm.elim
/-- calls -/
def prCall (P : Program) [Env P] (nt : Nat) (o : Oper) (c : Call) : Pr := match c.callee with
  | .value f => rdV f fun v => match v with
    | .fn f caps => rdVs c.args.toList fun vs => callK P nt o f (vs ++ caps)
    | _ => .fail
  | .builtin .append => match c.args.toList, c.argTypes.toList with
    | [x, y], [t, u] => prAppend P nt o t u x y
    | _, _ => .fail
  | .builtin .len => match c.args.toList, c.argTypes.toList with
    | [x], [t] => prLen P nt o t x
    | _, _ => .fail
  | .builtin .min => match c.args.toList with
    | [x, y] => prMin nt o false x y
    | _ => .fail
  | .builtin .max => match c.args.toList with
    | [x, y] => prMin nt o true x y
    | _ => .fail
  | _ => .fail
/-- an operation, told -/
def opPr (P : Program) [Env P] (nt : Nat) (ops : List Oper) (o : Oper) : Pr := match o.op with
  | .move x => prMove nt o x
  | .assign x => prMove nt o x
  | .pick c x y => prPick nt o c x y
  | .alloc t => prAlloc P nt o t
  | .box _ x => prBox nt o x
  | .build t ps => prBuild P nt o t ps
  | .buildSlice t n ps => prBuildSlice P nt o t n ps
  | .load t x => prLoad P nt o t x
  | .store t x y => prStore P nt o t x y
  | .nilCheck x => prNil nt o x
  | .binOp op t x y _ => prBin P nt o op t x y
  | .unOp op _ x => prNot nt o op x
  | .convert t u x => prConv P nt o t u x
  | .makeFunc f fs cs => match f, fs.toList with
    | .func f, [] => prFn nt o f cs.toList
    | _, _ => .fail
  | .slice t x lo hi mx => prSlice P nt ops o t x lo hi mx
  | .fieldAddr t x f => prFieldAddr P nt o t x f
  | .field t x f => prField P nt o t x f
  | .indexAddr t x i => prIndexAddr P nt o t x i
  | .index t x i => prIndex P nt o t x i
  | .extract x i => prExtract nt o x i
  | .call c => prCall P nt o c
  | _ => .fail
theorem run_callFunc {f : FuncId} (h : CallOk P f) (args : Array Value) (w : World) : (callFunc f args).run P w = .ok (.enter f args) w := by
  obtain ⟨fn, h1, h2, h3⟩ := h
  have h4 : fn.body.isNone = false := by cases hb : fn.body <;> simp_all
  simp only [callFunc, Sem.run_bind, run_program, Result.andThen_ok, h1, h3, h4, Bool.false_eq_true, if_false]; rfl
theorem prCall_ok [Env P] {c : Call} (ho : o.op = .call c) : OpS P nt o (prCall P nt o c) := by
  obtain ⟨callee, args, ts⟩ := c
  have arr : ∀ {α : Type} {l : List α} {a : Array α}, a.toList = l → a = l.toArray := fun h => by rw [← h]
  unfold prCall
  dsimp only
  split
  · rename_i fx
    intro E G s a w K next Q hnt hR hm hn
    rw [rdV_mwp] at hm
    have hx := ev_sound hR fx
    split at hm
    · rename_i f caps e
      rw [e] at hx
      obtain ⟨cs, h1, h2⟩ := hx.fn_inv
      rw [rdVs_mwp] at hm
      refine callK_ok (vs := args.map a.eval ++ cs) hnt hR hn hm ⟨by simp [h2.1], fun j p hj => ?_⟩ fun hc => ?_
      · rw [List.getElem?_append] at hj
        split at hj
        · rename_i hlt
          rw [List.getElem?_map] at hj
          cases hq : args.toList[j]? with
          | none => rw [hq] at hj; cases hj
          | some x =>
            rw [hq] at hj; simp only [Option.map_some, Option.some.injEq] at hj; subst hj
            refine ⟨a.eval x, ?_, ev_sound hR x⟩
            have hlt' : j < (args.map a.eval).size := by simpa using hlt
            rw [Array.getElem?_append_left hlt', Array.getElem?_map, ← Array.getElem?_toList, hq]; rfl
        · rename_i hge
          obtain ⟨c, h3, h4⟩ := h2.2 _ p hj
          refine ⟨c, ?_, .any _ _ (.cell _ _ h4)⟩
          have hge' : (args.map a.eval).size ≤ j := by simpa using hge
          rw [Array.getElem?_append_right hge']; simpa using h3
      · simp [execOp, ho, resolve, Deferred.ofValue, h1, invoke, run_callFunc hc]
    · exact hm.elim
  · split
    · rename_i e1 e2
      rw [arr e1, arr e2] at ho; exact prAppend_ok ho
    · intro E G s a w K next Q hnt hR hm hn; exact hm.elim
  · split
    · rename_i e1 e2
      rw [arr e1, arr e2] at ho; exact prLen_ok ho
    · intro E G s a w K next Q hnt hR hm hn; exact hm.elim
  · split
    · rename_i e1
      rw [arr e1] at ho; exact prMin_ok (mx := false) ho
    · intro E G s a w K next Q hnt hR hm hn; exact hm.elim
  · split
    · rename_i e1
      rw [arr e1] at ho; exact prMin_ok (mx := true) ho
    · intro E G s a w K next Q hnt hR hm hn; exact hm.elim
  · intro E G s a w K next Q hnt hR hm hn; exact hm.elim
theorem opPr_ok [Env P] {ops : List Oper} : OpS P nt o (opPr P nt ops o) := by
  unfold opPr
  split
  · rename_i h; exact prMove_ok (.inl h)
  · rename_i h; exact prMove_ok (.inr h)
  · rename_i h; exact prPick_ok h
  · rename_i h; exact prAlloc_ok h
  · rename_i h; exact prBox_ok h
  · rename_i h; exact prBuild_ok h
  · rename_i h; exact prBuildSlice_ok h
  · rename_i h; exact prLoad_ok h
  · rename_i h; exact prStore_ok h
  · rename_i h; exact prNil_ok h
  · rename_i h; exact prBin_ok h
  · rename_i h; exact prNot_ok h
  · rename_i h; exact prConv_ok h
  · rename_i f fs cs h
    split
    · rename_i e
      have : fs = #[] := by simpa using e
      subst this; exact prFn_ok h
    · intro E G s a w K next Q hnt hR hm hn; exact hm.elim
  · rename_i h; exact prSlice_ok h
  · rename_i h; exact prFieldAddr_ok h
  · rename_i h; exact prField_ok h
  · rename_i h; exact prIndexAddr_ok h
  · rename_i h; exact prIndex_ok h
  · rename_i h; exact prExtract_ok h
  · rename_i h; exact prCall_ok h
  · intro E G s a w K next Q hnt hR hm hn; exact hm.elim
end
end Go.PV
