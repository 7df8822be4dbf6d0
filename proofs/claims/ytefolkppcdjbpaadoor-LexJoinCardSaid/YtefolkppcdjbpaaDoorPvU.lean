/- Part of the proof of LexJoin. -/
import Derived.Test.YtefolkppcdjbpaaDoorPv20
import Derived.KernelRfl
import Derived.Lib.AtoiAll
import Derived.Lib.ItoaNum
import Derived.Lib.Bytealg
import Derived.Lib.AtoiErrMem
namespace Go.PV
open Go Go.RowKit
section
variable {P : Program} [Env P]
theorem call0 {f : FuncId} {avs args res : List V} {os' : List Ob} {K : Rec → Prop} (h : Good P f args [] res os') (k : K ⟨[], args, [], res, os'⟩) (e : args.map (renA []) = avs := by rfl) (o : args.all (okA 0) = true := by rfl) :
    ∃ r : Rec, (Good P f r.args r.os r.res r.os' ∧ r.args.map (renA r.ids) = avs ∧ r.args.all (okA r.os.length) = true ∧ r.os.all (okO r.os.length) = true) ∧ K r := ⟨_, ⟨h, e, o, rfl⟩, k⟩
theorem callN {f : FuncId} {avs : List V} {K : Rec → Prop} (ids : Ids) {args res : List V} {os os' : List Ob} (h : Good P f args os res os') (k : K ⟨ids, args, os, res, os'⟩) (e : args.map (renA ids) = avs := by rfl) (o : args.all (okA os.length) = true := by rfl) (o2 : os.all (okO os.length) = true := by rfl) :
    ∃ r : Rec, (Good P f r.args r.os r.res r.os' ∧ r.args.map (renA r.ids) = avs ∧ r.args.all (okA r.os.length) = true ∧ r.os.all (okO r.os.length) = true) ∧ K r := ⟨_, ⟨h, e, o, o2⟩, k⟩
theorem fin0 {vs res : List V} {K : Ids → Prop} (e : vs = res) (k : K []) (o : res.map (renA []) = res := by rfl) : ∃ nw, vs = res.map (renA ([] ++ nw)) ∧ K nw := ⟨[], by rw [e]; exact o.symm, k⟩
theorem wr {n : Int} (h1 : -9223372036854775808 ≤ n) (h2 : n ≤ 9223372036854775807) : IntKind.i64.wrap n = n := by
  have e : IntKind.i64.wrap n = (let m := n % 18446744073709551616; if m ≥ 9223372036854775808 then m - 18446744073709551616 else m) := by simp [IntKind.wrap, IntKind.bits, IntKind.signed]
  rw [e]; dsimp only; split <;> omega
theorem wru {n : Int} : IntKind.u64.wrap n = n % 18446744073709551616 := by simp [IntKind.wrap, IntKind.bits, IntKind.signed]
/-- data alone -/
def resSh (res : List V) (rv : Value) : Prop := match res with
  | [p] => Sh (fun _ _ _ => False) p rv
  | ps => ∃ vs, rv = .tuple vs ∧ Cells (Sh (fun _ _ _ => False)) ps vs
theorem resSh.rel {G : Gh} {w : World} {O : Tb} {res : List V} {rv : Value} (h : resSh res rv) : resRel G w O res rv := by
  have up : ∀ p v, Sh (fun _ _ _ => False) p v → RA G w O p v := fun p v hp => .cell _ _ (.sh _ _ (hp.mono fun _ _ _ h => h.elim))
  unfold resSh at h
  unfold resRel
  split at h
  · exact up _ _ h
  · rename_i hn
    obtain ⟨vs, h1, h2⟩ := h
    split
    · exact absurd rfl (hn _)
    · exact ⟨vs, h1, h2.mono up⟩
theorem good_of_calls {f : FuncId} {fn : Func} (hf : P.funcs[f]? = some fn) (hb : fn.body.isSome = true) (hname : (fn.name == "runtime.NumGoroutine") = false) {args res : List V} (hok : res.all (okA 0) = true)
    (h : ∀ vs w G, Cells (RA G w (tbl [])) args vs → Env.Z P w → Calls P f vs w fun e w' => ∃ rv, e = .returned rv ∧ resSh res rv ∧ Below w.heap.size w w') : Good P f args [] res [] where
  call := ⟨fn, hf, hb, hname⟩
  len := Nat.le_refl _
  okR := hok
  okO' := rfl
  kind := fun k g c hk => by simp at hk
  run := fun vs w G hc ho hn hz => (h vs w G hc hz).mono fun e w' hh => by
    obtain ⟨rv, h1, h2, h3⟩ := hh
    refine ⟨rv, G, h1, h2.rel, fun k o hk => by simp at hk, ?_⟩
    exact { sys := h3.os, tape := h3.tape, output := h3.output, size := h3.size
            st := fun b o c hs => ⟨hs.1, by
              have hlt : b < w.heap.size := World.block_lt_of_cell? w ⟨b, o, none⟩ hs.2
              have := hs.2
              unfold World.cell? at this ⊢
              rw [h3.block b hlt]; exact this⟩
            im := fun k hk _ => ⟨rfl, h3.block k hk⟩
            bx := fun k g c hk => by simp at hk }
theorem RA.str_eq {G : Gh} {w : World} {O : Tb} {l : List UInt8} {v : Value} (h : RA G w O (.str l) v) : v = .string ⟨l.toArray⟩ := by
  cases h with
  | cell _ _ h => cases h with
    | sh _ _ h => cases h; rfl
theorem RA.int_eq {G : Gh} {w : World} {O : Tb} {k : IntKind} {n : Int} {v : Value} (h : RA G w O (.int k n) v) : v = .int k n := by
  cases h with
  | cell _ _ h => cases h with
    | sh _ _ h => cases h; rfl
theorem RA.bool_eq {G : Gh} {w : World} {O : Tb} {b : Bool} {v : Value} (h : RA G w O (.bool b) v) : v = .bool b := by
  cases h with
  | cell _ _ h => cases h with
    | sh _ _ h => cases h; rfl
theorem cells1 {R : V → Value → Prop} {p : V} {vs : Array Value} (h : Cells R [p] vs) : ∃ v, vs = #[v] ∧ R p v := by
  obtain ⟨v, h1, h2⟩ := h.2 0 p rfl
  have hs := h.1
  refine ⟨v, ?_, h2⟩
  apply Array.ext
  · simpa using hs
  · intro i hi _
    have : i = 0 := by simp at hs; omega
    subst this
    simpa [Array.getElem?_eq_getElem hi] using h1
theorem cells2 {R : V → Value → Prop} {p q : V} {vs : Array Value} (h : Cells R [p, q] vs) : ∃ v u, vs = #[v, u] ∧ R p v ∧ R q u := by
  obtain ⟨v, h1, h2⟩ := h.2 0 p rfl
  obtain ⟨u, h3, h4⟩ := h.2 1 q rfl
  have hs := h.1
  refine ⟨v, u, ?_, h2, h4⟩
  apply Array.ext
  · simpa using hs
  · intro i hi _
    have : i = 0 ∨ i = 1 := by simp at hs; omega
    rcases this with rfl | rfl
    · simpa [Array.getElem?_eq_getElem hi] using h1
    · simpa [Array.getElem?_eq_getElem hi] using h3
theorem Cells.two {R : V → Value → Prop} {p q : V} {v u : Value} (h : R p v) (k : R q u) : Cells R [p, q] #[v, u] := ⟨rfl, fun j x hj => by
  match j, hj with
  | 0, hj => simp at hj; subst hj; exact ⟨v, rfl, h⟩
  | 1, hj => simp at hj; subst hj; exact ⟨u, rfl, k⟩⟩
/-- a shared slice of strings -/
theorem RA.strs_eq {G : Gh} {w : World} {O : Tb} {l : List (List UInt8)} {v : Value} (h : RA G w O (.sl 1 (l.map fun x => [.str x])) v) :
    (l = [] ∧ ∃ a c, v = .slice a 0 c) ∨ ∃ b off cap, v = .slice (some ⟨b, off, none⟩) l.length cap ∧ l.length ≤ cap ∧ ∀ (j : Nat) (x : List UInt8), l[j]? = some x → w.cell? ⟨b, off + j, none⟩ = some (.string ⟨x.toArray⟩) := by
  cases h with
  | cell _ _ h => cases h with
    | sh _ _ h =>
      generalize hm : (l.map fun x => [V.str x]) = xs at h
      cases h with
      | sl0 n a c => left; exact ⟨by simpa using hm, a, c, rfl⟩
      | sl n xs b off cap c h0 hl hc hs hh =>
        subst hm
        right
        refine ⟨b, off, cap, by simp, by simpa using hc, fun j x hj => ?_⟩
        have hj' : (l.map fun x => [V.str x])[j]? = some [.str x] := by simp [hj]
        have h1 := (hs j [.str x] 0 (.str x) hj' rfl).2
        have h2 := hh j [.str x] 0 (.str x) hj' rfl
        generalize c j 0 = cv at h1 h2
        cases h2
        simpa using h1
end
end Go.PV
