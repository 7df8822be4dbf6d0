/- Part of the proof of LexJoin. -/
import Derived.Test.YtefolkppcdjbpaaDoorPv10
namespace Go.PV
open Go Go.RowKit
section
variable {P : Program} {nt : Nat} {o : Oper}
def prAppend (P : Program) (nt : Nat) (o : Oper) (t t' : TypeId) (x y : Operand) : Pr := match Nat.beq t t', P.underlying t with
  | true, some (.slice e) => match P.toTables.info? e with
    | some ie => match ie.zero with
      | some z => match ie.size, Nat.beq z.cells.size ie.size, Nat.ble ie.bytes 1024 with
        | n + 1, true, true => rdV x fun u => rdV y fun v => itemsK (n + 1) v fun ys => match u with
          | .nil => .ex PUnit (fun _ => ys.length ≤ 137438953472) fun _ => newK nt o (fun g => .arr g false (n + 1) ys) fun id g => .own id g
          | .own id gen => arrK id gen fun sh m xs => match Nat.beq m (n + 1) with
            | true => .ex PUnit (fun _ => xs.length + ys.length ≤ 137438953472) fun _ => .putO id (.arr (gen + 1) sh (n + 1) (xs ++ ys)) (setD nt o.dst (.own id (gen + 1)) .done)
            | false => .fail
          | _ => .fail
        | _, _, _ => .fail
      | none => .fail
    | none => .fail
  | _, _ => .fail
theorem run_call_append {t t' : TypeId} {x y : Operand} (ho : o.op = .call { callee := .builtin .append, args := #[x, y], argTypes := #[t, t'] }) (ρ : Operand → Value) (w : World) :
    (execOp ρ o).run P w = ((Builtin.append_ #[t, t'] o.type #[ρ x, ρ y]).run P w).andThen fun v w => .ok (.value v) w := by
  simp [execOp, ho, resolve, invoke, builtin]
theorem nilOwn {G : Gh} {w : World} {O : Tb} {id g n : Nat} {sh : Bool} (hn : G.isnil id = true) (h : O id = some (.arr g sh n [])) : RV G w O (.own id g) (.slice none 0 0) :=
  .any _ _ (.cell _ _ (.own _ _ _ _ rfl h (Nat.le_refl _) fun m len _ e => by simp [hdr, hn]))
theorem prAppend_ok [Env P] {t t' : TypeId} {x y : Operand} (ho : o.op = .call { callee := .builtin .append, args := #[x, y], argTypes := #[t, t'] }) : OpS P nt o (prAppend P nt o t t' x y) := by
  intro E G s a w K next Q hnt hR hm hn
  unfold prAppend at hm
  split at hm
  case h_2 => exact hm.elim
  rename_i e htt hu
  have htt := Nat.eq_of_beq_eq_true htt; subst htt
  split at hm
  case h_2 => exact hm.elim
  rename_i ie hie
  split at hm
  case h_2 => exact hm.elim
  rename_i z hz
  split at hm
  case h_2 => exact hm.elim
  rename_i n hsz hzs hby
  have hzs := Nat.eq_of_beq_eq_true hzs
  have hsz : ie.size = n + 1 := hsz
  rw [hsz] at hzs
  have hby := Nat.le_of_ble_eq_true hby
  simp only [rdV_mwp] at hm
  obtain ⟨ys, hm, hy⟩ := itemsK_spec hR (ev_sound hR y) hm
  have hx := ev_sound hR x
  have hrun := run_call_append (P := P) ho a.eval w
  have bound : ∀ k, k ≤ 137438953472 → k * ie.bytes ≤ 140737488355328 := fun k hk => Nat.le_trans (Nat.mul_le_mul hk hby) (by decide)
  split at hm
  · rename_i e1
    rw [e1] at hx
    obtain ⟨_, hb, hm⟩ := hm
    rw [hx.nil_inv] at hrun
    rcases append_nil_run (P := P) (ty := o.type) hu hie hz hsz hzs hy (bound _ hb) (by omega) with ⟨rfl, hr⟩ | ⟨cap, cs, fs, w', hr, hw, h1, h2, h3, hf, hc, hcz, hp⟩
    · rw [hr] at hrun
      unfold newK at hm
      split at hm
      · exact hm.elim
      · rename_i d hd
        simp only [Pr.mwp] at hm
        obtain ⟨g, hg, hm⟩ := genK_spec hm
        simp only [Pr.mwp] at hm
        have hR' : RG E _ (s.putO (64 + d) (.arr g false (n + 1) [])) a w := nilG_rg hR (by cases e : E.bx (64 + d) with | none => rfl | some b => have := (hR.fr.bx _ b e).1; omega) hg
        obtain ⟨s', hk, hR2⟩ := setD_put hnt hR' (nilOwn (by simp [nilG, upd_same]) (by rw [St.O_putO, if_pos rfl])) hm
        exact opwp_value hrun (hn _ _ _ hk (by rw [hd]; exact ⟨_, hR2⟩))
    · rw [hr] at hrun
      exact newK_ok (v := .slice (some ⟨w.heap.size, 0, none⟩) ys.length cap) (cap := cap) hnt hR hn hm hrun (fun _ => rfl) hw h1 h2 h3
        (fun id s' _ hle g _ => newG_arr hw hle hf (Nat.succ_pos _) hc hcz hp false) (fun id g s' h => newG_own h)
  · rename_i id gen e1
    rw [e1] at hx
    obtain ⟨sh, m, xs, hO, hm⟩ := arrK_spec hm
    split at hm
    case h_2 => exact hm.elim
    rename_i hmn
    have hmn := Nat.eq_of_beq_eq_true hmn; subst hmn
    obtain ⟨_, hb, hm⟩ := hm
    simp only [Pr.mwp] at hm
    rw [hx.own_inv hO] at hrun
    have hgen : ∀ o, s.O id = some o → o.gen < (Ob.arr (gen + 1) sh (n + 1) (xs ++ ys)).gen := fun o e => by rw [hO] at e; cases e; exact Nat.lt_succ_self _
    have hO' : (s.putO id (.arr (gen + 1) sh (n + 1) (xs ++ ys))).O id = some (.arr (gen + 1) sh (n + 1) (xs ++ ys)) := by rw [St.O_putO, if_pos rfl]
    have grown : ∀ {w' : World} {cap : Nat} {cs : Array Value} {fs : List Value}, (execOp a.eval o).run P w = .ok (.value (.slice (some ⟨w.heap.size, 0, none⟩) (xs ++ ys).length cap)) w' → w'.heap = w.heap.push (.cells cs e (0, 0)) → w'.os = w.os → w'.tape = w.tape → w'.output = w.output →
        Flat (stab G w) (n + 1) (xs ++ ys) fs → (xs ++ ys).length ≤ cap → cap * (n + 1) ≤ cs.size → (∀ (j : Nat) (c : Value), fs[j]? = some c → cs[j]? = some c) → o.wp P a w next Q := by
      intro w' cap cs fs hr hw h1 h2 h3 hf hc hcz hp
      have hle := newG_le (G := G) (s := s) (cap := cap) hw hgen
      have hR' : RG E _ (s.putO id (.arr (gen + 1) sh (n + 1) (xs ++ ys))) a w' := newG_rg hR (hR.arr_bx hO) hw h1 h2 h3 hgen (newG_arr hw hle hf (Nat.succ_pos _) hc hcz hp sh)
      obtain ⟨s', hk, hR2⟩ := setD_put hnt hR' (newG_own hO') hm
      exact opwp_value hr (hn _ _ _ hk ⟨_, hR2⟩)
    cases hR.ob id _ hO with
    | nil _ _ _ hnl =>
      simp only [hdr, hnl, if_true] at hrun
      rcases append_nil_run (P := P) (ty := o.type) hu hie hz hsz hzs hy (bound _ (by simpa using hb)) (by simp at hb; omega) with ⟨rfl, hr⟩ | ⟨cap, cs, fs, w', hr, hw, h1, h2, h3, hf, hc, hcz, hp⟩
      · rw [hr] at hrun
        have hR' : RG E G (s.putO id (.arr (gen + 1) sh (n + 1) ([] ++ []))) a w := sam_rg hR hO (.inl (hR.arr_bx hO)) (.inl (Nat.lt_succ_self _)) (.nil _ _ _ hnl)
        obtain ⟨s', hk, hR2⟩ := setD_put hnt hR' (nilOwn hnl hO') hm
        exact opwp_value hrun (hn _ _ _ hk ⟨_, hR2⟩)
      · rw [hr] at hrun
        exact grown (by simpa using hrun) hw h1 h2 h3 (by simpa using hf) (by simpa using hc) hcz hp
    | arr _ _ _ _ cs T lim hnl hblk hw h0 hl hc hzz hs ht hh =>
      simp only [hdr, hnl, Bool.false_eq_true, if_false] at hrun
      have hfl : Flat (stab G w) (n + 1) xs (cs.toList.take (xs.length * (n + 1))) := by
        refine ⟨?_, hl, fun i x j p hi hj => ?_⟩
        · have : xs.length * (n + 1) ≤ G.cap id * (n + 1) := Nat.mul_le_mul_right _ hc
          simp; omega
        · obtain ⟨c, h1, h2⟩ := hh i x j p hi hj
          have hlt : i * (n + 1) + j < xs.length * (n + 1) := mul_at (List.getElem?_eq_some_iff.1 hi).1 (by rw [← hl i x hi]; exact (List.getElem?_eq_some_iff.1 hj).1)
          exact ⟨c, by rw [List.getElem?_take, if_pos hlt]; simpa using h1, h2⟩
      have hfs : ∀ (j : Nat) (c : Value), (cs.toList.take (xs.length * (n + 1)))[j]? = some c → cs[j]? = some c := fun j c hj => by
        rw [List.getElem?_take] at hj; split at hj
        · simpa using hj
        · cases hj
      rcases append_some_run (P := P) (ty := o.type) hu hie hz hsz hzs (Nat.succ_pos n) hy (bound _ hb) (by omega) hblk hfl hfs hc hzz with ⟨hroom, ds, hds, hr⟩ | ⟨cap, cs', gs, w', hr, hw', h1, h2, h3, hf, hc', hcz, hp⟩
      · rw [hr] at hrun
        have hcap : (xs ++ ys).length ≤ G.cap id := by rw [List.length_append]; exact hroom
        have hlen : ds.length = ys.length * (n + 1) := hds.sz
        have hfit : xs.length * (n + 1) + ds.length ≤ cs.toList.length := by
          rw [hlen, ← Nat.add_mul]; exact Nat.le_trans (Nat.mul_le_mul_right _ hroom) (by simpa using hzz)
        have hst : ∀ off c, stab G w (G.blk id) off c → off < lim ∧ (w.setRow (G.blk id) (lay cs.toList (xs.length * (n + 1)) ds).toArray).cell? ⟨G.blk id, off, none⟩ = some c := fun off c hoc => by
          have hlt := hoc.1 lim (by rw [hw])
          refine ⟨hlt, ?_⟩
          rw [cell_of_row _ _ _ _ T _ (setRow_heap w _ _ _ T _ hblk), List.getElem?_toArray, lay_get _ _ _ _ hfit, if_neg (by omega)]
          have := hoc.2
          rw [cell_of_row w _ _ cs T _ hblk] at this; simpa using this
        have hne := setRow_heap_ne w (G.blk id) (lay cs.toList (xs.length * (n + 1)) ds).toArray
        have hle := limG_le (G := G) (s := s) (o' := .arr (gen + 1) sh (n + 1) (xs ++ ys)) hO hne hst (.inl (Nat.lt_succ_self _))
        have hR' := limG_rg (o' := .arr (gen + 1) sh (n + 1) (xs ++ ys)) hR hO (.inl (hR.arr_bx hO)) (.inl hnl) hne (by simp) rfl rfl rfl hst (.inl (Nat.lt_succ_self _)) (by
          refine .arr _ _ _ _ _ T lim hnl (setRow_heap w _ _ _ T _ hblk) (by simp [limG, upd_same]) h0 (hfl.append hds).ln hcap ?_ hs ?_ (fun i x j p hi hj => ?_)
          · rw [List.size_toArray, lay_length _ _ _ hfit, Array.length_toList]; exact hzz
          · rw [List.length_append]; exact Nat.le_trans ht (Nat.mul_le_mul_right _ (Nat.le_add_right _ _))
          · obtain ⟨c, h1, h2⟩ := (hfl.append hds).at_ i x j p hi hj
            refine ⟨c, ?_, h2.mono hle.hs⟩
            have hk := (List.getElem?_eq_some_iff.1 h1).1
            rw [List.length_append, hfl.sz] at hk
            rw [List.getElem?_toArray, lay_get _ _ _ _ hfit]
            rw [List.getElem?_append, hfl.sz] at h1
            split at h1
            · rename_i hlt
              rw [if_neg (by omega)]; simpa using hfs _ _ h1
            · rename_i hge
              rw [if_pos (by omega)]; exact h1)
        have hv : RV (limG G id lim) (w.setRow (G.blk id) (lay cs.toList (xs.length * (n + 1)) ds).toArray) (s.putO id (.arr (gen + 1) sh (n + 1) (xs ++ ys))).O (.own id (gen + 1)) (.slice (some ⟨G.blk id, 0, none⟩) (xs.length + ys.length) (G.cap id)) := by
          refine .any _ _ (.cell _ _ (.own _ _ _ _ rfl hO' (Nat.le_refl _) fun m len _ e => ?_))
          simp only [Ob.sig, Option.some.injEq, Prod.mk.injEq, List.length_append] at e
          simp [hdr, limG, hnl, e.2]
        obtain ⟨s', hk, hR2⟩ := setD_put hnt hR' hv hm
        exact opwp_value hrun (hn _ _ _ hk ⟨_, hR2⟩)
      · rw [hr] at hrun
        exact grown (by rw [List.length_append]; exact hrun) hw' h1 h2 h3 hf hc' hcz hp
  · exact hm.elim
/-- how long -/
def prLen (P : Program) (nt : Nat) (o : Oper) (t : TypeId) (x : Operand) : Pr := rdV x fun v => match P.underlying t, v with
  | some .string, .str l => setD nt o.dst (.int .i64 l.length) .done
  | some (.slice _), .sl _ xs => setD nt o.dst (.int .i64 xs.length) .done
  | some (.slice _), .nil => setD nt o.dst (.int .i64 0) .done
  | some (.slice _), .own id gen => arrK id gen fun _ _ xs => setD nt o.dst (.int .i64 xs.length) .done
  | _, _ => .fail
theorem prLen_ok [Env P] {t : TypeId} {x : Operand} (ho : o.op = .call { callee := .builtin .len, args := #[x], argTypes := #[t] }) : OpS P nt o (prLen P nt o t x) := by
  refine .pure fun E G s a w K hR hm => ?_
  simp only [prLen, rdV_mwp] at hm
  have hx := ev_sound hR x
  split at hm
  · rename_i l hu e1
    rw [e1] at hx
    exact ⟨_, .int .i64 l.length, hm, by simp [execOp, ho, resolve, invoke, builtin, Builtin.len_, hx.str_inv, run_underlying hu, str_size, goInt], .of_sh (.int _ _)⟩
  · rename_i e n xs hu e1
    rw [e1] at hx
    have : ∃ ad c, a.eval x = .slice ad xs.length c := by have := hx.sl_inv; revert this; generalize a.eval x = v; intro h; cases h with | sl0 => exact ⟨_, _, rfl⟩ | sl => exact ⟨_, _, rfl⟩
    obtain ⟨ad, c, e2⟩ := this
    exact ⟨_, .int .i64 xs.length, hm, by simp [execOp, ho, resolve, invoke, builtin, Builtin.len_, e2, run_underlying hu, goInt], .of_sh (.int _ _)⟩
  · rename_i e hu e1
    rw [e1] at hx
    exact ⟨_, .int .i64 0, hm, by simp [execOp, ho, resolve, invoke, builtin, Builtin.len_, hx.nil_inv, run_underlying hu, goInt], .of_sh (.int _ _)⟩
  · rename_i e id gen hu e1
    rw [e1] at hx
    obtain ⟨sh, n, xs, hO, hm⟩ := arrK_spec hm
    have : ∃ ad c, a.eval x = .slice ad xs.length c := by
      rw [hx.own_inv hO, hdr]
      cases hR.ob id _ hO with
      | nil _ _ _ hn => rw [hn]; exact ⟨_, _, rfl⟩
      | arr _ _ _ _ _ _ _ hn => rw [hn]; exact ⟨_, _, rfl⟩
    obtain ⟨ad, c, e2⟩ := this
    exact ⟨_, .int .i64 xs.length, hm, by simp [execOp, ho, resolve, invoke, builtin, Builtin.len_, e2, run_underlying hu, goInt], .of_sh (.int _ _)⟩
  · exact hm.elim
def prMin (nt : Nat) (o : Oper) (mx : Bool) (x y : Operand) : Pr := rdV x fun u => rdV y fun v => match u, v with
  | .int i m, .int _ n => match mx with
    | false => setD nt o.dst (.int i (if n < m then n else m)) .done
    | true => setD nt o.dst (.int i (if m < n then n else m)) .done
  | _, _ => .fail
theorem prMin_ok [Env P] {ts : Array TypeId} {x y : Operand} {mx : Bool} (ho : o.op = .call { callee := .builtin (if mx then .max else .min), args := #[x, y], argTypes := ts }) : OpS P nt o (prMin nt o mx x y) := by
  refine .pure fun E G s a w K hR hm => ?_
  simp only [prMin, rdV_mwp] at hm
  have hx := ev_sound hR x
  have hy := ev_sound hR y
  split at hm
  · rename_i i m j n e1 e2
    rw [e1] at hx; rw [e2] at hy
    cases mx with
    | false => exact ⟨_, .int i (if n < m then n else m), hm, by simp [execOp, ho, resolve, invoke, builtin, Builtin.min_, Builtin.min2, hx.int_inv, hy.int_inv], .of_sh (.int _ _)⟩
    | true => exact ⟨_, .int i (if m < n then n else m), hm, by simp [execOp, ho, resolve, invoke, builtin, Builtin.max_, Builtin.max2, hx.int_inv, hy.int_inv], .of_sh (.int _ _)⟩
  · exact hm.elim
/-- conversions: of numbers; of bytes to a string -/
def numOf : List V → Int
  | [.int _ n] => n
  | _ => 0
def prConv (P : Program) (nt : Nat) (o : Oper) (t u : TypeId) (x : Operand) : Pr := rdV x fun v => match P.underlying t, P.underlying u, v with
  | some (.int _), some (.int k), .int _ n => setD nt o.dst (.int k (k.wrap n)) .done
  | some (.slice e), some .string, v => match P.underlying e with
    | some (.int .u8) => itemsK 1 v fun ys => .ex PUnit (fun _ => ∀ y ∈ ys, ∃ n, y = [.int .u8 n]) fun _ => setD nt o.dst (.str (ys.map fun y => UInt8.ofNat (numOf y).toNat)) .done
    | _ => .fail
  | _, _, _ => .fail
theorem prConv_ok [Env P] {t u : TypeId} {x : Operand} (ho : o.op = .convert t u x) : OpS P nt o (prConv P nt o t u x) := by
  refine .pure fun E G s a w K hR hm => ?_
  simp only [prConv, rdV_mwp] at hm
  have hx := ev_sound hR x
  split at hm
  · rename_i k0 k i n h1 h2 e1
    rw [e1] at hx
    exact ⟨_, .int k (k.wrap n), hm, by simp [execOp, ho, convert, run_underlying h1, run_underlying h2, hx.int_inv, Conv.intToInt], .of_sh (.int _ _)⟩
  · rename_i e hs hd
    split at hm
    · rename_i he
      obtain ⟨ys, ⟨_, hb, hm⟩, hl⟩ := itemsK_spec hR hx hm
      have run : (convert t u (a.eval x)).run P w = .ok (.string ⟨(ys.map fun y => UInt8.ofNat (numOf y).toNat).toArray⟩) w := by
        rcases hl with ⟨⟨ad, cc, h1⟩, rfl⟩ | ⟨b, off, cap, fs, h1, hc, hf, hcell⟩
        · rw [h1]
          cases ad with
          | none => rw [run_convert_bytes_nil w t e hs he 0 cc u hd]; rfl
          | some ad =>
            have hl : (loadCells ad 0).run P w = .ok #[] w := by simpa using run_loadCells_list (P := P) w ad [] (fun j v hj => by simp at hj)
            rw [run_convert_bytes_string w t u e _ 0 cc hs he hd]
            simp [Conv.bytesToString, hl]
            rfl
        · rw [h1, run_convert_bytes_arg w t e hs he b off ys.length cap (ys.map numOf) (by simp) (fun i hi => ?_) u hd]
          · simp [strOfNums, Function.comp_def]
          · have hx := List.getElem?_eq_getElem hi
            obtain ⟨n, hn⟩ := hb _ (List.getElem_mem hi)
            rw [hn] at hx
            obtain ⟨c, h2, h3⟩ := hf.at_ i _ 0 _ hx rfl
            cases h3
            rw [hcell i _ (by simpa using h2)]
            simp [List.getD, hx, numOf]
      exact ⟨_, _, hm, by simp only [execOp, ho, Sem.run_bind, run, Result.andThen_ok]; rfl, .of_sh (.str _)⟩
    · exact hm.elim
  · exact hm.elim
end
end Go.PV
