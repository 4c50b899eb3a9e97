/-
  The operations, said of abstract states: arithmetic, comparisons, conversions.
-/
import Derived.Test.YtdeoaadkngiilaaDoorAw4
import Derived.ChangeKeysEq
import Derived.WalkSpells
import Derived.WalkLawsBesides
set_option linter.unusedVariables false
namespace Go.Aw

/-- A string out of its bytes. -/
def bs (l : List UInt8) : ByteArray := ⟨⟨l⟩⟩
theorem bs_toList (s : ByteArray) : bs s.data.toList = s := rfl
theorem exists_bs (s : ByteArray) : ∃ l, s = bs l := ⟨s.data.toList, rfl⟩
theorem bs_size (l : List UInt8) : (bs l).size = l.length := rfl
theorem bs_append (a b : List UInt8) : bs a ++ bs b = bs (a ++ b) := by
  show ByteArray.append _ _ = _
  apply ByteArray.ext
  simp [bs]
theorem toList_bs (l : List UInt8) : (bs l).toList = l := by rw [ByteArray.toList_eq]; rfl
theorem bs_inj {a b : List UInt8} : bs a = bs b ↔ a = b := ⟨fun h => by simpa [bs] using h, fun h => by rw [h]⟩
theorem bs_extract (l : List UInt8) (i j : Nat) : (bs l).extract i j = bs ((l.take j).drop i) := by
  apply ByteArray.ext
  simp [bs, List.drop_take]

/-- The bits of a byte and of a word: an operation of two numbers. -/
def bitV (op : BinOp) (k : IntKind) (a b : Int) : Option Int :=
  let x := BitVec.ofInt k.bits a
  let y := BitVec.ofInt k.bits b
  match op with
  | .and => some (k.wrap (x &&& y).toNat)
  | .or => some (k.wrap (x ||| y).toNat)
  | .xor => some (k.wrap (x ^^^ y).toNat)
  | .andNot => some (k.wrap (x &&& ~~~y).toNat)
  | _ => none

/-- Equality by the type. -/
def eqFs (f : TypeId → Value → Value → Option Bool) (P : Program) (xs ys : List Value) : List Field → Option Bool
  | [] => some true
  | fd :: r =>
    if fd.name = "_" then eqFs f P xs ys r
    else match tA P fd.type, tS P fd.type with
      | some true, some n => (f fd.type (.agg ⟨(xs.drop fd.offset).take n⟩) (.agg ⟨(ys.drop fd.offset).take n⟩)).bind fun b => (eqFs f P xs ys r).map (b && ·)
      | some false, some _ => xs[fd.offset]?.bind fun x => ys[fd.offset]?.bind fun y => (f fd.type x y).bind fun b => (eqFs f P xs ys r).map (b && ·)
      | _, _ => none

/-- Equality of arrays: element by element. -/
def eqA (f : TypeId → Value → Value → Option Bool) (P : Program) (e : TypeId) (c : Nat) (xs ys : List Value) : List Nat → Option Bool
  | [] => some true
  | i :: r => match tA P e with
    | some true => (f e (.agg ⟨(xs.drop (i * c)).take c⟩) (.agg ⟨(ys.drop (i * c)).take c⟩)).bind fun b => (eqA f P e c xs ys r).map (b && ·)
    | some false => xs[i * c]?.bind fun x => ys[i * c]?.bind fun y => (f e x y).bind fun b => (eqA f P e c xs ys r).map (b && ·)
    | none => none

def eqV (P : Program) : Nat → TypeId → Value → Value → Option Bool
  | 0, _, _, _ => none
  | d + 1, t, x, y =>
    match P.underlying t, x, y with
    | some .bool, .bool a, .bool b => some (a == b)
    | some (.int _), .int k a, .int k' b => if k = k' then some (a == b) else none
    | some .string, .string a, .string b => some (a == b)
    | some (.pointer _), .pointer none, .pointer b => some b.isNone
    | some (.pointer _), .pointer (some _), .pointer none => some false
    | some (.interface _), .nilIface, .nilIface => some true
    | some (.interface _), .nilIface, .iface _ _ => some false
    | some (.interface _), .iface _ _, .nilIface => some false
    | some (.slice _), .slice none _ _, .slice b _ _ => some b.isNone
    | some (.slice _), .slice (some _) _ _, .slice none _ _ => some false
    | some (.map _ _), .map none, .map b => some b.isNone
    | some (.map _ _), .map (some _), .map none => some false
    | some (.func _ _ _), .nilFunc, .nilFunc => some true
    | some (.func _ _ _), .nilFunc, .func _ _ _ => some false
    | some (.func _ _ _), .func _ _ _, .nilFunc => some false
    | some (.struct fs), .agg ⟨xs⟩, .agg ⟨ys⟩ => if P.stoodInHeld t = true then none else eqFs (eqV P d) P xs ys fs.toList
    | some (.array n e), .agg ⟨xs⟩, .agg ⟨ys⟩ => match tS P e with
      | some c => eqA (eqV P d) P e c xs ys (List.range n)
      | none => none
    | _, _, _ => none

theorem part_ok {c : Ctx} {P : Program} {t : TypeId} {xs xs' : List Value} (h : VRels c xs xs') {off : Nat} (w : World) :
    (∀ n, tA P t = some true → tS P t = some n → ∃ x', (part t ⟨xs'⟩ off).run P w = .ok x' w ∧ VRel c (.agg ⟨(xs.drop off).take n⟩) x') ∧
    (∀ x, tA P t = some false → xs[off]? = some x → ∃ x', (part t ⟨xs'⟩ off).run P w = .ok x' w ∧ VRel c x x') := by
  constructor
  · intro n ha hn
    refine ⟨.agg ⟨(xs'.drop off).take n⟩, ?_, .agg (VRels.take n (VRels.drop off h))⟩
    simp only [part, Sem.run_bind, run_isAgg ha, Result.andThen_ok, if_true, run_sizeOf hn, Sem.run_pure]
    have : (⟨xs'⟩ : Array Value).extract off (off + n) = ⟨(xs'.drop off).take n⟩ := by
      apply Array.ext'
      simp
    rw [this]
  · intro x ha hx
    obtain ⟨x', h1, h2⟩ := h.get hx
    refine ⟨x', ?_, h2⟩
    simp only [part, Sem.run_bind, run_isAgg ha, Result.andThen_ok, Bool.false_eq_true, if_false]
    simp [h1]

set_option maxHeartbeats 2000000 in
theorem eqV_ok {P : Program} {c : Ctx} {w : World} : ∀ {d : Nat} {t : TypeId} {x y x' y' : Value} {b : Bool}, eqV P d t x y = some b → VRel c x x' → VRel c y y' → ∀ m, (Op.equalIn (d + m) t x' y').run P w = .ok b w := by
  intro d
  induction d with
  | zero => intro t x y x' y' b h; simp [eqV] at h
  | succ d ih =>
    intro t x y x' y' b h hx hy m
    rw [show d + 1 + m = (d + m) + 1 from by omega]
    unfold eqV at h
    split at h <;> try (cases h; done)
    · rename_i hu; cases hx; cases hy; simp at h; subst h; simp [Op.equalIn, run_underlying hu]
    · rename_i hu; cases hx; cases hy; split at h <;> simp at h; subst h; rename_i hk; subst hk; simp [Op.equalIn, run_underlying hu]
    · rename_i hu; cases hx; cases hy; simp at h; subst h; simp [Op.equalIn, run_underlying hu]
    · rename_i hu; cases hx; cases hy <;> (simp at h; subst h; simp [Op.equalIn, run_underlying hu])
    · rename_i hu; cases hx; cases hy; simp at h; subst h; simp [Op.equalIn, run_underlying hu]
    · rename_i hu; cases hx; cases hy; simp at h; subst h; simp [Op.equalIn, run_underlying hu]
    · rename_i hu; cases hx; cases hy; simp at h; subst h; simp [Op.equalIn, run_underlying hu]
    · rename_i hu; cases hx; cases hy; simp at h; subst h; simp [Op.equalIn, run_underlying hu]
    · rename_i hu; cases hx; cases hy <;> (simp at h; subst h; simp [Op.equalIn, run_underlying hu])
    · rename_i hu; cases hx <;> cases hy <;> (simp at h; subst h; simp [Op.equalIn, run_underlying hu])
    · rename_i hu; cases hx; cases hy <;> (simp at h; subst h; simp [Op.equalIn, run_underlying hu])
    · rename_i hu; cases hx; cases hy; simp at h; subst h; simp [Op.equalIn, run_underlying hu]
    · rename_i hu; cases hx; cases hy; simp at h; subst h; simp [Op.equalIn, run_underlying hu]
    · rename_i hu; cases hx; cases hy; simp at h; subst h; simp [Op.equalIn, run_underlying hu]
    · rename_i hu; cases hx; cases hy; simp at h; subst h; simp [Op.equalIn, run_underlying hu]
    · rename_i fs xs ys hu
      cases hx with
      | agg hxs =>
      cases hy with
      | agg hys =>
      rename_i xs' ys'
      split at h
      · cases h
      · rename_i hst
        have hf : P.fieldsOf t = fs := by simp [Program.fieldsOf, hu]
        rw [run_equalIn_struct w (d + m) t _ _ (by rw [hf]; exact hu) (by simpa using hst), hf]
        generalize fs.toList = l at h
        clear hf hu hst
        induction l generalizing b with
        | nil => simp [eqFs] at h; subst h; rfl
        | cons fd r ihr =>
          simp only [eqFs] at h
          simp only [Op.eqFields]
          by_cases hn : fd.name = "_"
          · rw [if_pos hn] at h
            simp only [hn, ne_eq, not_true_eq_false, if_false]
            exact ihr h
          · rw [if_neg hn] at h
            simp only [ne_eq, hn, not_false_eq_true, if_true]
            split at h
            · rename_i n ha hs
              cases he : eqV P d fd.type (.agg ⟨(xs.drop fd.offset).take n⟩) (.agg ⟨(ys.drop fd.offset).take n⟩) with
              | none => simp [he] at h
              | some b1 =>
                simp only [he, Option.bind_some] at h
                cases her : eqFs (eqV P d) P xs ys r with
                | none => simp [her] at h
                | some b2 =>
                  simp [her] at h
                  obtain ⟨x', hx1, hx2⟩ := (part_ok hxs w).1 n ha hs
                  obtain ⟨y', hy1, hy2⟩ := (part_ok hys w).1 n ha hs
                  have := ih he hx2 hy2 m
                  simp only [Sem.run_bind, hx1, hy1, this, Result.andThen_ok]
                  cases b1 with
                  | false => simp at h; subst h; simp
                  | true => simp at h; subst h; simp; exact ihr her
            · rename_i n ha hs
              cases hx0 : xs[fd.offset]? with
              | none => simp [hx0] at h
              | some x0 =>
              cases hy0 : ys[fd.offset]? with
              | none => simp [hx0, hy0] at h
              | some y0 =>
              simp only [hx0, hy0, Option.bind_some] at h
              cases he : eqV P d fd.type x0 y0 with
              | none => simp [he] at h
              | some b1 =>
                simp only [he, Option.bind_some] at h
                cases her : eqFs (eqV P d) P xs ys r with
                | none => simp [her] at h
                | some b2 =>
                  simp [her] at h
                  obtain ⟨x', hx1, hx2⟩ := (part_ok hxs w).2 x0 ha hx0
                  obtain ⟨y', hy1, hy2⟩ := (part_ok hys w).2 y0 ha hy0
                  have := ih he hx2 hy2 m
                  simp only [Sem.run_bind, hx1, hy1, this, Result.andThen_ok]
                  cases b1 with
                  | false => simp at h; subst h; simp
                  | true => simp at h; subst h; simp; exact ihr her
            · cases h
    · rename_i n e xs ys hu
      cases hx with
      | agg hxs =>
      cases hy with
      | agg hys =>
      rename_i xs' ys'
      split at h
      · rename_i c hc
        obtain ⟨i, hi, hic⟩ : ∃ i, P.info? e = some i ∧ i.size = c := by
          unfold tS at hc
          cases hi : P.info? e with
          | none => rw [hi] at hc; cases hc
          | some i => rw [hi] at hc; exact ⟨i, rfl, by simpa using hc⟩
        have hcell : P.cellsOf e = c := by simp [Program.cellsOf, hi, hic]
        rw [run_equalIn_array (w := w) (d + m) _ _ hu hi, hcell]
        generalize List.range n = l at h
        clear hu
        induction l generalizing b with
        | nil => simp [eqA] at h; subst h; rfl
        | cons j r ihr =>
          simp only [eqA] at h
          simp only [Op.eqItems]
          split at h
          · rename_i ha
            cases he : eqV P d e (.agg ⟨(xs.drop (j * c)).take c⟩) (.agg ⟨(ys.drop (j * c)).take c⟩) with
            | none => simp [he] at h
            | some b1 =>
              simp only [he, Option.bind_some] at h
              cases her : eqA (eqV P d) P e c xs ys r with
              | none => simp [her] at h
              | some b2 =>
                simp [her] at h
                obtain ⟨x', hx1, hx2⟩ := (part_ok hxs w).1 c ha hc
                obtain ⟨y', hy1, hy2⟩ := (part_ok hys w).1 c ha hc
                have := ih he hx2 hy2 m
                simp only [Sem.run_bind, hx1, hy1, this, Result.andThen_ok]
                cases b1 with
                | false => simp at h; subst h; simp
                | true => simp at h; subst h; simp; exact ihr her
          · rename_i ha
            cases hx0 : xs[j * c]? with
            | none => simp [hx0] at h
            | some x0 =>
            cases hy0 : ys[j * c]? with
            | none => simp [hx0, hy0] at h
            | some y0 =>
            simp only [hx0, hy0, Option.bind_some] at h
            cases he : eqV P d e x0 y0 with
            | none => simp [he] at h
            | some b1 =>
              simp only [he, Option.bind_some] at h
              cases her : eqA (eqV P d) P e c xs ys r with
              | none => simp [her] at h
              | some b2 =>
                simp [her] at h
                obtain ⟨x', hx1, hx2⟩ := (part_ok hxs w).2 x0 ha hx0
                obtain ⟨y', hy1, hy2⟩ := (part_ok hys w).2 y0 ha hy0
                have := ih he hx2 hy2 m
                simp only [Sem.run_bind, hx1, hy1, this, Result.andThen_ok]
                cases b1 with
                | false => simp at h; subst h; simp
                | true => simp at h; subst h; simp; exact ihr her
          · cases h
      · cases h
end Go.Aw
