/- The abstract machine: rules for the single operations on symbols. No condition. -/
import Derived.Test.YtnhhdgopgecggaaAbsEx
set_option linter.unusedVariables false
set_option linter.unusedSimpArgs false
namespace Go.Proofs.Ytnhhdgopgecggaa.Abs
open Go

section
variable (P : Program) (G : Env) (ρ : Operand → Value) (H : AHeap)
def toR {α : Type} (H : AHeap) (r : Option α) : Option (α × AHeap) := r.map fun v => (v, H)
theorem toR_some {α : Type} (v : α) : toR H (some v) = some (v, H) := rfl
theorem aop_move (x : Operand) : aop P G (.move x) ρ H = some (ρ x, H) := rfl
theorem aop_assign (x : Operand) : aop P G (.assign x) ρ H = some (ρ x, H) := rfl
def pickA (c a b : Value) : Option Value :=
  match c with
  | .bool true => some a
  | .bool false => some b
  | _ => none
theorem pickA_true (a b : Value) : pickA (.bool true) a b = some a := rfl
theorem pickA_false (a b : Value) : pickA (.bool false) a b = some b := rfl
theorem pickA_bool (c a b : Bool) : pickA (.bool c) (.bool a) (.bool b) = some (.bool (bif c then a else b)) := by cases c <;> rfl
theorem aop_pick (c a b : Operand) : aop P G (.pick c a b) ρ H = toR H (pickA (ρ c) (ρ a) (ρ b)) := by
  show (match ρ c with
    | .bool true => some (ρ a, H)
    | .bool false => some (ρ b, H)
    | _ => none) = _
  unfold pickA
  split <;> rfl
theorem aop_alloc (e : TypeId) : aop P G (.alloc e) ρ H = aAlloc P e H := rfl
theorem aop_box (e : TypeId) (x : Operand) : aop P G (.box e x) ρ H = some (aNew (ρ x).cells.toList H) := rfl
theorem aop_build (t : TypeId) (l : List (Nat × Operand)) : aop P G (.build t l.toArray) ρ H = toR H (aBuild P t (l.map fun p => (p.1, ρ p.2))) := rfl
theorem aop_buildSlice (t : TypeId) (n : Nat) (l : List (Nat × Operand)) : aop P G (.buildSlice t n l.toArray) ρ H = aBuildSlice P t n (l.map fun p => (p.1, ρ p.2)) H := rfl
theorem aop_load (t : TypeId) (a : Operand) : aop P G (.load t a) ρ H = toR H (aLoad P t (ρ a) H) := rfl
theorem aop_store (t : TypeId) (a x : Operand) : aop P G (.store t a x) ρ H = (aStore P t (ρ a) (ρ x) H).map fun H' => (undef, H') := rfl
theorem aop_nilCheck (x : Operand) : aop P G (.nilCheck x) ρ H = toR H (aNil (ρ x)) := rfl
theorem aop_binOp (op : BinOp) (t : TypeId) (x y : Operand) (yt : TypeId) : aop P G (.binOp op t x y yt) ρ H = toR H (aBin P op t x y (ρ x) (ρ y)) := rfl
theorem aop_unOp (op : UnOp) (t : TypeId) (x : Operand) : aop P G (.unOp op t x) ρ H = toR H (aUn P op (ρ x)) := rfl
theorem aop_convert (s d : TypeId) (x : Operand) : aop P G (.convert s d x) ρ H = toR H (aConv P s d (ρ x)) := rfl
theorem aop_makeFunc (fn : Fn) (l m : List Operand) : aop P G (.makeFunc fn l.toArray m.toArray) ρ H = some (.func fn (l.map ρ).toArray (m.map ρ).toArray, H) := rfl
theorem aop_makeSlice (t : TypeId) (l c : Operand) : aop P G (.makeSlice t l c) ρ H = aMakeSlice P t (ρ l) (ρ c) H := rfl
theorem aop_slice (t : TypeId) (x : Operand) (lo hi mx : Option Operand) : aop P G (.slice t x lo hi mx) ρ H = toR H (aSlice P t (ρ x) (lo.map ρ) (hi.map ρ) (mx.map ρ)) := rfl
theorem aop_fieldAddr (s : TypeId) (x : Operand) (f : Nat) : aop P G (.fieldAddr s x f) ρ H = toR H (aFieldAddr P s (ρ x) f) := rfl
theorem aop_field (t : TypeId) (x : Operand) (f : Nat) : aop P G (.field t x f) ρ H = toR H (aField P t (ρ x) f) := rfl
theorem aop_indexAddr (t : TypeId) (x i : Operand) : aop P G (.indexAddr t x i) ρ H = toR H (aIndexAddr P t (ρ x) (ρ i)) := rfl
theorem aop_index (t : TypeId) (x i : Operand) : aop P G (.index t x i) ρ H = toR H (aIndex P t (ρ x) (ρ i)) := rfl
theorem aop_extract (x : Operand) (i : Nat) : aop P G (.extract x i) ρ H = toR H (aExtract (ρ x) i) := rfl
def callV (G : Env) (f : Value) (args : List Value) (H : AHeap) : Option (Value × AHeap) :=
  match f with
  | .func (.func id) ⟨fi⟩ ⟨ca⟩ => G id (fi ++ args ++ ca) H
  | _ => none
theorem callV_func (G : Env) (id : Nat) (args : List Value) (H : AHeap) : callV G (.func (.func id) #[] #[]) args H = G id args H := by
  show G id ([] ++ args ++ []) H = _
  simp
theorem callV_clos (G : Env) (id : Nat) (fi ca args : List Value) (H : AHeap) : callV G (.func (.func id) fi.toArray ca.toArray) args H = G id (fi ++ args ++ ca) H := rfl
theorem aop_call (f : Operand) (l : List Operand) (ts : Array TypeId) : aop P G (.call ⟨.value f, l.toArray, ts⟩) ρ H = callV G (ρ f) (l.map ρ) H := rfl
theorem aop_builtin (b : Builtin) (l : List Operand) (ts : List TypeId) : aop P G (.call ⟨.builtin b, l.toArray, ts.toArray⟩) ρ H = aBuiltin P b ts (l.map ρ) H := rfl
theorem bi_len (t : TypeId) (x : Value) : aBuiltin P .len [t] [x] H = toR H (aLen P t x) := rfl
theorem bi_append (ts : List TypeId) (s x : Value) : aBuiltin P .append ts [s, x] H = aAppend P ts s x H := rfl
theorem bi_max (ts : List TypeId) (x y : Value) : aBuiltin P .max ts [x, y] H = toR H (aMost true x y) := rfl
theorem bi_min (ts : List TypeId) (x y : Value) : aBuiltin P .min ts [x, y] H = toR H (aMost false x y) := rfl
theorem aMost_max (k : FloatKind) (p q : Nat) : aMost true (.float k p) (.float k q) = some (.float k (fmax k p q)) := by simp [aMost]
theorem aMost_min (k : FloatKind) (p q : Nat) : aMost false (.float k p) (.float k q) = some (.float k (fmin k p q)) := by simp [aMost]
theorem aMost_imax (k : IntKind) (p q : Int) : aMost true (.int k p) (.int k q) = some (.int k (if q > p then q else p)) := by simp [aMost]
theorem aMost_imin (k : IntKind) (p q : Int) : aMost false (.int k p) (.int k q) = some (.int k (if q < p then q else p)) := by simp [aMost]
end

/-! ### Memory -/
section
variable (P : Program)
def loadB (ag : Option Bool) (sz : Option Nat) (off : Nat) (b : Option Blk) : Option Value :=
  match b with
  | some (.live _ cs) => match ag with
    | some false => cs[off]?
    | some true => match sz with
      | some n => if off + n ≤ cs.length then some (.agg ⟨(cs.drop off).take n⟩) else none
      | none => none
    | none => none
  | _ => none
theorem aLoad_ptr (t : TypeId) (b off : Nat) (H : AHeap) : aLoad P t (.pointer (some ⟨b, off, none⟩)) H = loadB (aggT P t) (szT P t) off H[b]? := rfl
theorem loadB_one (sz : Option Nat) (off : Nat) (lk : Bool) (cs : List Value) : loadB (some false) sz off (some (.live lk cs)) = cs[off]? := rfl
theorem loadB_agg (n off : Nat) (lk : Bool) (cs : List Value) : loadB (some true) (some n) off (some (.live lk cs)) = if off + n ≤ cs.length then some (.agg ⟨(cs.drop off).take n⟩) else none := rfl
def storeB (sz : Option Nat) (off : Nat) (x : List Value) (b : Option Blk) : Option Blk :=
  match b with
  | some (.live false cs) => if sz = some x.length ∧ off + x.length ≤ cs.length ∧ x.all oneB = true then some (.live false (setAll cs off x)) else none
  | _ => none
theorem aStore_ptr (t : TypeId) (b off : Nat) (x : Value) (H : AHeap) : aStore P t (.pointer (some ⟨b, off, none⟩)) x H = (storeB (szT P t) off x.cells.toList H[b]?).map (H.set b) := by
  unfold aStore storeB
  split
  · rename_i b' off' e
    cases e
    split
    · rename_i cs hb
      rw [hb]
      dsimp only
      split <;> rfl
    · rename_i h1 
      split
      · rename_i cs hb; exact absurd hb (h1 cs)
      · rfl
  · rename_i h; exact absurd rfl (h b off)
theorem storeB_live (sz : Option Nat) (off : Nat) (x cs : List Value) : storeB sz off x (some (.live false cs)) = if sz = some x.length ∧ off + x.length ≤ cs.length ∧ x.all oneB = true then some (.live false (setAll cs off x)) else none := rfl
theorem setAll_nil (cs : List Value) (off : Nat) : setAll cs off [] = cs := rfl
theorem setAll_cons (cs : List Value) (off : Nat) (v : Value) (vs : List Value) : setAll cs off (v :: vs) = setAll (cs.set off v) (off + 1) vs := rfl
theorem aNew_hp (cs : List Value) (H ext : AHeap) : aNew cs (hp H ext) = (.pointer (some ⟨nb H ext.length, 0, none⟩), hp H (ext ++ [.live false cs])) := by
  unfold aNew; rw [hp_length, hp_add]
theorem aRow_hp (cs : List Value) (n : Nat) (H ext : AHeap) : aRow cs n (hp H ext) = (.slice (some ⟨nb H ext.length, 0, none⟩) n n, hp H (ext ++ [.live false cs])) := by
  unfold aRow; rw [hp_length, hp_add]
theorem aAlloc_of {t : TypeId} {z : Value} (hz : zeroT P t = some z) (hc : closed z = true) (H : AHeap) : aAlloc P t H = some (aNew z.cells.toList H) := by
  unfold aAlloc; rw [hz]; dsimp only; rw [if_pos hc]
theorem cells_bool (b : Bool) : (Value.bool b).cells = #[.bool b] := rfl
theorem cells_int (k : IntKind) (n : Int) : (Value.int k n).cells = #[.int k n] := rfl
theorem cells_float (k : FloatKind) (x : Nat) : (Value.float k x).cells = #[.float k x] := rfl
theorem cells_string (s : ByteArray) : (Value.string s).cells = #[.string s] := rfl
theorem cells_pointer (a : Option Addr) : (Value.pointer a).cells = #[.pointer a] := rfl
theorem cells_slice (a : Option Addr) (n c : Nat) : (Value.slice a n c).cells = #[.slice a n c] := rfl
theorem cells_agg (cs : Array Value) : (Value.agg cs).cells = cs := rfl
theorem toList_mk {α : Type} (l : List α) : (Array.mk l).toList = l := rfl
theorem oneB_bool (b : Bool) : oneB (.bool b) = true := rfl
theorem oneB_int (k : IntKind) (n : Int) : oneB (.int k n) = true := rfl
theorem oneB_float (k : FloatKind) (x : Nat) : oneB (.float k x) = true := rfl
theorem oneB_string (s : ByteArray) : oneB (.string s) = true := rfl
theorem oneB_pointer (a : Option Addr) : oneB (.pointer a) = true := rfl
theorem oneB_slice (a : Option Addr) (n c : Nat) : oneB (.slice a n c) = true := rfl
theorem aNil_ptr (a : Addr) : aNil (.pointer (some a)) = some (.pointer (some a)) := rfl
theorem aNil_func (f : Nat) (fi ca : Array Value) : aNil (.func (.func f) fi ca) = some (.func (.func f) fi ca) := rfl
theorem aExtract_mk (l : List Value) (i : Nat) : aExtract (.tuple ⟨l⟩) i = l[i]? := rfl
theorem aFieldAddr_of {s : TypeId} {f : Nat} {fd : Field} {n : Nat} (hf : fieldT P s f = some fd) (hn : szT P fd.type = some (n + 1)) (b off : Nat) : aFieldAddr P s (.pointer (some ⟨b, off, none⟩)) f = some (.pointer (some ⟨b, off + fd.offset, none⟩)) := by
  unfold aFieldAddr; dsimp only; rw [hf]; dsimp only; rw [hn]; rfl
def faddrT (P : Program) (s : TypeId) (f : Nat) : Option Nat :=
  match fieldT P s f with
  | some fd => match szT P fd.type with
    | some n => if n = 0 then none else some fd.offset
    | none => none
  | none => none
omit P in
theorem faddr_of {P : Program} {s : TypeId} {f o : Nat} (h : faddrT P s f = some o) (b off : Nat) : aFieldAddr P s (.pointer (some ⟨b, off, none⟩)) f = some (.pointer (some ⟨b, off + o, none⟩)) := by
  unfold faddrT at h
  unfold aFieldAddr
  split at h
  case h_2 => cases h
  rename_i fd hf
  split at h
  case h_2 => cases h
  rename_i n hn
  split at h
  · cases h
  · rename_i h0; cases h
    dsimp only; rw [hf]; dsimp only; rw [hn]; dsimp only; rw [if_neg h0]
theorem storeB_one (off : Nat) (x : Value) (cs : List Value) : storeB (some 1) off [x] (some (.live false cs)) = if off < cs.length ∧ oneB x = true then some (.live false (cs.set off x)) else none := by
  simp only [storeB, List.length_cons, List.length_nil, List.all_cons, List.all_nil, setAll, Bool.and_true, Nat.zero_add, true_and, Nat.succ_le_iff]
theorem aIndexAddr_slice {t e : TypeId} (he : elemT P t = some e) (hs : szT P e = some 1) (k : IntKind) (i : Int) (b off n c : Nat) :
    aIndexAddr P t (.slice (some ⟨b, off, none⟩) n c) (.int k i) = if 0 ≤ i ∧ i < n then some (.pointer (some ⟨b, off + i.toNat, none⟩)) else none := by
  unfold aIndexAddr; dsimp only; rw [he]; dsimp only; rw [hs]; simp
theorem aLen_slice {t e : TypeId} (he : elemT P t = some e) (a : Option Addr) (n c : Nat) : aLen P t (.slice a n c) = some (.int .i64 n) := by
  unfold aLen; rw [und_elem he]
theorem aSlice_of {t e : TypeId} (he : elemT P t = some e) (hs : szT P e = some 1) (lo hi : Option Value) (b off n c : Nat) : aSlice P t (.slice (some ⟨b, off, none⟩) n c) lo hi none =
    (match boundOf 0 lo, boundOf n hi with
    | some l, some h => if 0 ≤ l ∧ l ≤ h ∧ h ≤ n then some (.slice (some ⟨b, off + l.toNat, none⟩) (h - l).toNat (h - l).toNat) else none
    | _, _ => none) := by
  unfold aSlice; dsimp only; rw [he]; dsimp only; rw [hs]
  split <;> simp_all
end

/-! ### Arithmetic -/
section
variable (P : Program) (t : TypeId) (x y : Operand)
theorem bin_fadd (k : FloatKind) (p q : Nat) : aBin P .add t x y (.float k p) (.float k q) = some (.float k (fbin .add k p q)) := by simp [aBin, arith]
theorem bin_fsub (k : FloatKind) (p q : Nat) : aBin P .sub t x y (.float k p) (.float k q) = some (.float k (fbin .sub k p q)) := by simp [aBin, arith]
theorem bin_fmul (k : FloatKind) (p q : Nat) : aBin P .mul t x y (.float k p) (.float k q) = some (.float k (fbin .mul k p q)) := by simp [aBin, arith]
theorem bin_fquo (k : FloatKind) (p q : Nat) : aBin P .quo t x y (.float k p) (.float k q) = some (.float k (fbin .quo k p q)) := by simp [aBin, arith]
theorem bin_feql (k : FloatKind) (p q : Nat) : aBin P .eql t x y (.float k p) (.float k q) = some (.bool (fcmp .eql k p q)) := by simp [aBin, arith, cmpB]
theorem bin_fneq (k : FloatKind) (p q : Nat) : aBin P .neq t x y (.float k p) (.float k q) = some (.bool (fcmp .neq k p q)) := by simp [aBin, arith, cmpB]
theorem bin_flss (k : FloatKind) (p q : Nat) : aBin P .lss t x y (.float k p) (.float k q) = some (.bool (fcmp .lss k p q)) := by simp [aBin, arith, cmpB]
theorem bin_fleq (k : FloatKind) (p q : Nat) : aBin P .leq t x y (.float k p) (.float k q) = some (.bool (fcmp .leq k p q)) := by simp [aBin, arith, cmpB]
theorem bin_fgtr (k : FloatKind) (p q : Nat) : aBin P .gtr t x y (.float k p) (.float k q) = some (.bool (fcmp .gtr k p q)) := by simp [aBin, arith, cmpB]
theorem bin_fgeq (k : FloatKind) (p q : Nat) : aBin P .geq t x y (.float k p) (.float k q) = some (.bool (fcmp .geq k p q)) := by simp [aBin, arith, cmpB]

theorem ask0_bind {α β : Type} {P : Program} {s : Sem α} {f : α → Sem β} {a : α} (h : ask0 P s = some a) : ask0 P (s >>= f) = ask0 P (f a) := by
  induction s with
  | pure b => simp [ask0] at h; subst h; rfl
  | program k ih => simp only [ask0] at h; exact ih P h
  | mark m k ih => simp only [ask0] at h; exact ih h
  | _ => simp [ask0] at h
theorem eqGuard_int (op : BinOp) (k k' : IntKind) (p q : Int) : ask0 P (eqGuard op t x y (.int k p) (.int k' q)) = some () := by
  unfold eqGuard
  cases op <;> rfl
theorem bin_int (op : BinOp) (k k' : IntKind) (p q : Int) {v : Value} (h : ask0 P (binOp op t (.int k p) (.int k' q)) = some v) (hg : ground v = true) : aBin P op t x y (.int k p) (.int k' q) = some v := by
  unfold aBin
  dsimp only
  rw [if_pos ⟨rfl, rfl⟩, ask0_bind (eqGuard_int P t x y op k k' p q), h]
  dsimp only
  rw [if_pos hg]
theorem bin_iadd (k : IntKind) (p q : Int) : aBin P .add t x y (.int k p) (.int k q) = some (.int k (k.wrap (p + q))) := bin_int P t x y _ k k p q (by simp [binOp, Op.intArith, ask0]; rfl) rfl
theorem bin_isub (k : IntKind) (p q : Int) : aBin P .sub t x y (.int k p) (.int k q) = some (.int k (k.wrap (p - q))) := bin_int P t x y _ k k p q (by simp [binOp, Op.intArith, ask0]; rfl) rfl
theorem bin_imul (k : IntKind) (p q : Int) : aBin P .mul t x y (.int k p) (.int k q) = some (.int k (k.wrap (p * q))) := bin_int P t x y _ k k p q (by simp [binOp, Op.intArith, ask0]; rfl) rfl
theorem bin_iquo (k : IntKind) (p q : Int) (h : q ≠ 0) : aBin P .quo t x y (.int k p) (.int k q) = some (.int k (k.wrap (p.tdiv q))) := bin_int P t x y _ k k p q (by simp [binOp, Op.intDiv, h]; rfl) rfl
theorem bin_irem (k : IntKind) (p q : Int) (h : q ≠ 0) : aBin P .rem t x y (.int k p) (.int k q) = some (.int k (p.tmod q)) := bin_int P t x y _ k k p q (by simp [binOp, Op.intDiv, h]; rfl) rfl
theorem bin_ieql (k : IntKind) (p q : Int) : aBin P .eql t x y (.int k p) (.int k q) = some (.bool (decide (p = q))) := bin_int P t x y _ k k p q (by simp [binOp, Op.intCmp]; rfl) rfl
theorem bin_ineq (k : IntKind) (p q : Int) : aBin P .neq t x y (.int k p) (.int k q) = some (.bool (!decide (p = q))) := bin_int P t x y _ k k p q (by simp [binOp, Op.intCmp]; rfl) rfl
theorem bin_ilss (k : IntKind) (p q : Int) : aBin P .lss t x y (.int k p) (.int k q) = some (.bool (decide (p < q))) := bin_int P t x y _ k k p q (by simp [binOp, Op.intCmp]; rfl) rfl
theorem bin_ileq (k : IntKind) (p q : Int) : aBin P .leq t x y (.int k p) (.int k q) = some (.bool (decide (p ≤ q))) := bin_int P t x y _ k k p q (by simp [binOp, Op.intCmp]; rfl) rfl
theorem bin_igtr (k : IntKind) (p q : Int) : aBin P .gtr t x y (.int k p) (.int k q) = some (.bool (decide (q < p))) := bin_int P t x y _ k k p q (by simp [binOp, Op.intCmp]; rfl) rfl
theorem bin_igeq (k : IntKind) (p q : Int) : aBin P .geq t x y (.int k p) (.int k q) = some (.bool (decide (q ≤ p))) := bin_int P t x y _ k k p q (by simp [binOp, Op.intCmp]; rfl) rfl
theorem un_not (b : Bool) : aUn P .not (.bool b) = some (.bool (!b)) := rfl
theorem un_fneg (k : FloatKind) (p : Nat) : aUn P .neg (.float k p) = some (.float k (fneg k p)) := rfl

theorem conv_ff {s d : TypeId} {u : TypeDesc} {k : FloatKind} (hs : P.underlying s = some u) (hd : P.underlying d = some (.float k)) (q : FloatKind) (p : Nat) : aConv P s d (.float q p) = (fconv q p k).map (.float k) := by
  unfold aConv; dsimp only; rw [hs, hd]
theorem conv_fi {s d : TypeId} {u : TypeDesc} {k : IntKind} (hs : P.underlying s = some u) (hd : P.underlying d = some (.int k)) (q : FloatKind) (p : Nat) : aConv P s d (.float q p) = (floatToIntVal q p k).map (.int k) := by
  unfold aConv; dsimp only; rw [hs, hd]
theorem ask0_und {P : Program} {s : TypeId} {u : TypeDesc} (hs : P.underlying s = some u) : ask0 P (underlying s) = some u := by
  have h1 : ask0 P program = some P := rfl
  unfold underlying
  rw [ask0_bind h1, hs]
  rfl
theorem conv_ii {s d : TypeId} {u : TypeDesc} {k : IntKind} (hs : P.underlying s = some u) (hd : P.underlying d = some (.int k)) (q : IntKind) (n : Int) : aConv P s d (.int q n) = some (.int k (k.wrap n)) := by
  have h : ask0 P (convert s d (.int q n)) = some (.int k (k.wrap n)) := by
    unfold convert
    rw [ask0_bind (ask0_und hs), ask0_bind (ask0_und hd)]
    cases u <;> rfl
  unfold aConv
  dsimp only
  rw [if_pos (by rfl), h]; rfl
theorem nearest_closed (k : FloatKind) (n : Int) : closed (.float k (k.nearest n)) = true := by
  simp only [closed, beq_iff_eq, canon]
  rw [if_neg]
  simp only [FloatKind.nearest]
  exact Bool.eq_false_iff.1 (write_not_nan k _ rfl)
theorem conv_if {s d : TypeId} {u : TypeDesc} {k : FloatKind} (hs : P.underlying s = some u) (hd : P.underlying d = some (.float k)) (q : IntKind) (n : Int) : aConv P s d (.int q n) = some (.float k (k.nearest n)) := by
  have h : ask0 P (convert s d (.int q n)) = some (.float k (k.nearest n)) := by
    unfold convert
    rw [ask0_bind (ask0_und hs), ask0_bind (ask0_und hd)]
    cases u <;> rfl
  unfold aConv
  dsimp only
  rw [if_pos (by rfl), h]
  dsimp only
  rw [if_pos (nearest_closed k n)]
end


theorem ask0_und' {P : Program} {s : TypeId} {u : TypeDesc} (hs : P.underlying s = some u) : ask0 P (underlying s) = some u := ask0_und hs
theorem bin_beql {P : Program} {t : TypeId} (hu : P.underlying t = some .bool) (x y : Operand) (a b : Bool) : aBin P .eql t x y (.bool a) (.bool b) = some (.bool (decide (a = b))) := by
  have h1 : ask0 P (eqGuard .eql t x y (.bool a) (.bool b)) = some () := rfl
  have h2 : ask0 P (binOp .eql t (.bool a) (.bool b)) = some (.bool (decide (a = b))) := by
    show ask0 P (do pure (Value.bool (← Op.equal t (.bool a) (.bool b)))) = _
    have : ask0 P (Op.equal t (.bool a) (.bool b)) = some (decide (a = b)) := by
      show ask0 P (Op.equalIn Op.maxDepth t (.bool a) (.bool b)) = _
      rw [show Op.maxDepth = (Op.maxDepth - 1) + 1 by decide]
      unfold Op.equalIn
      rw [ask0_bind (ask0_und hu)]
      cases a <;> cases b <;> rfl
    rw [ask0_bind this]; rfl
  unfold aBin
  dsimp only
  rw [if_pos ⟨rfl, rfl⟩, ask0_bind h1, h2]; rfl
theorem bin_bneq {P : Program} {t : TypeId} (hu : P.underlying t = some .bool) (x y : Operand) (a b : Bool) : aBin P .neq t x y (.bool a) (.bool b) = some (.bool (!decide (a = b))) := by
  have h1 : ask0 P (eqGuard .neq t x y (.bool a) (.bool b)) = some () := rfl
  have h2 : ask0 P (binOp .neq t (.bool a) (.bool b)) = some (.bool (!decide (a = b))) := by
    show ask0 P (do pure (Value.bool (!(← Op.equal t (.bool a) (.bool b))))) = _
    have : ask0 P (Op.equal t (.bool a) (.bool b)) = some (decide (a = b)) := by
      show ask0 P (Op.equalIn Op.maxDepth t (.bool a) (.bool b)) = _
      rw [show Op.maxDepth = (Op.maxDepth - 1) + 1 by decide]
      unfold Op.equalIn
      rw [ask0_bind (ask0_und hu)]
      cases a <;> cases b <;> rfl
    rw [ask0_bind this]; rfl
  unfold aBin
  dsimp only
  rw [if_pos ⟨rfl, rfl⟩, ask0_bind h1, h2]; rfl

/-! ### Rows and structs -/
/-- The zero of a row's elements, where each is one cell. -/
def rowT (P : Program) (t : TypeId) : Option Value :=
  match elemT P t with
  | some e => match szT P e, zeroT P e, bytesT P e with
    | some n, some z, some by_ => if n = 1 ∧ by_ ≤ 256 ∧ z.cells.size = 1 ∧ closed z = true ∧ oneB z = true then some z else none
    | _, _, _ => none
  | none => none
theorem rowT_spec {P : Program} {t : TypeId} {z : Value} (h : rowT P t = some z) : ∃ e by_, elemT P t = some e ∧ szT P e = some 1 ∧ zeroT P e = some z ∧ bytesT P e = some by_ ∧ by_ ≤ 256 ∧ z.cells.size = 1 ∧ closed z = true ∧ oneB z = true := by
  unfold rowT at h
  split at h
  · rename_i e he
    split at h
    · rename_i n z' by_ h1 h2 h3
      split at h
      · rename_i hc; cases h
        obtain ⟨rfl, g⟩ := hc
        exact ⟨e, by_, he, h1, h2, h3, g⟩
      · cases h
    · cases h
  · cases h
section
variable {P : Program} {t : TypeId} {z : Value} (hr : rowT P t = some z)
include hr
theorem row_len (a : Option Addr) (n c : Nat) : aLen P t (.slice a n c) = some (.int .i64 n) := by
  obtain ⟨e, by_, he, _⟩ := rowT_spec hr; exact aLen_slice P he a n c
theorem row_index (k : IntKind) (i : Int) (b off n c : Nat) : aIndexAddr P t (.slice (some ⟨b, off, none⟩) n c) (.int k i) = if 0 ≤ i ∧ i < n then some (.pointer (some ⟨b, off + i.toNat, none⟩)) else none := by
  obtain ⟨e, by_, he, hs, _⟩ := rowT_spec hr; exact aIndexAddr_slice P he hs k i b off n c
theorem row_slice (lo hi : Option Value) (b off n c : Nat) : aSlice P t (.slice (some ⟨b, off, none⟩) n c) lo hi none =
    (match boundOf 0 lo, boundOf n hi with
    | some l, some h => if 0 ≤ l ∧ l ≤ h ∧ h ≤ n then some (.slice (some ⟨b, off + l.toNat, none⟩) (h - l).toNat (h - l).toNat) else none
    | _, _ => none) := by
  obtain ⟨e, by_, he, hs, _⟩ := rowT_spec hr; exact aSlice_of P he hs lo hi b off n c
theorem row_make (k k' : IntKind) (l c : Int) (H : AHeap) : aMakeSlice P t (.int k l) (.int k' c) H = if 0 ≤ l ∧ l ≤ c ∧ c ≤ 2 ^ 40 then some (aRow (List.replicate l.toNat z) l.toNat H) else none := by
  obtain ⟨e, by_, he, hs, hz, hb, h1, h2, h3, h4⟩ := rowT_spec hr
  unfold aMakeSlice; dsimp only; rw [he]; dsimp only; rw [hs, hz, hb]
  have : z.cells[0]! = z := by cases z <;> first | rfl | simp [oneB] at h4
  simp only [h1, h2, h3, this, and_self, and_true, true_and]
def fillL (cs : List Value) : List (Nat × Value) → Option (List Value)
  | [] => some cs
  | (i, v) :: rest => if oneB v = true ∧ i < cs.length then fillL (cs.set i v) rest else none
omit hr in
theorem fillL_eq : ∀ (l : List (Nat × Value)) (cs out : List Value), fillL cs l = some out → Instr.fill (fun i => some (i * 1, 1)) cs.toArray l = some out.toArray := by
  intro l
  induction l with
  | nil => intro cs out h; simp only [fillL, Option.some.injEq] at h; subst h; rfl
  | cons p l ih =>
    obtain ⟨i, v⟩ := p
    intro cs out h
    unfold fillL at h
    split at h
    case isFalse => cases h
    rename_i hc
    have hv : v.cells = #[v] := by
      have := hc.1
      cases v <;> first | rfl | simp [oneB] at this
    unfold Instr.fill
    simp only [hv]
    rw [if_neg (by simp; omega), Nat.mul_one]
    have e : (Array.foldl (fun cs x => match x with | (c, j) => cs.setIfInBounds (i + j) c) cs.toArray (#[v].zipIdx)) = (cs.set i v).toArray := by simp
    rw [e]
    exact ih _ _ h
theorem row_build (len : Nat) (l : List (Nat × Value)) (H : AHeap) {out : List Value} (hl : len ≤ 2 ^ 24) (h : fillL (List.replicate len z) l = some out) (ho : out.length = len) : aBuildSlice P t len l H = some (aRow out len H) := by
  obtain ⟨e, by_, he, hs, hz, hb, h1, h2, h3, h4⟩ := rowT_spec hr
  unfold aBuildSlice; rw [he]; dsimp only; rw [hs, hz]; dsimp only
  rw [if_pos ⟨by omega, h3, by omega, by omega⟩]
  have hrep : (Array.range (len * 1)).map (fun i => z.cells[i % z.cells.size]!) = (List.replicate len z).toArray := by
    have hz0 : z.cells = #[z] := by cases z <;> first | rfl | simp [oneB] at h4
    rw [Nat.mul_one]
    apply Array.ext'
    simp [hz0, Array.toList_range]
    apply List.ext_getElem
    · simp
    · intro n g1 g2; simp [Nat.mod_one]
  split
  · rename_i hc
    obtain ⟨rfl, rfl⟩ := hc
    simp only [List.replicate_zero, fillL, Option.some.injEq] at h
    subst h; rfl
  · rw [hrep, fillL_eq _ _ _ h]
    simp [ho]
/-- What 'append' answers: a row of its own behind all others; the old one's place is gone. -/
def appA (s : Value) (xs : List Value) (H : AHeap) : Option (Value × AHeap) :=
  match s with
  | .slice none 0 0 => if xs = [] then some (s, H) else if xs.length ≤ 2 ^ 38 then some (aRow xs xs.length H) else none
  | .slice (some ⟨b, off, none⟩) len _ =>
    match H[b]? with
    | some (.live false cs) =>
      if off + len = cs.length ∧ len + xs.length ≤ 2 ^ 38 then
        if xs = [] then some (s, H) else some (.slice (some ⟨H.length, 0, none⟩) (len + xs.length) (len + xs.length), H.set b .dead ++ [.live false (cs.drop off ++ xs)])
      else none
    | _ => none
  | _ => none
theorem row_append (tx : TypeId) (s x : Value) (H : AHeap) {xs : List Value} (hx : aCells x H = some xs) (ho : xs.all oneB = true) (ht : srcT P tx x = true) : aAppend P [t, tx] s x H = appA s xs H := by
  obtain ⟨e, by_, he, hs, hz, hb, h1, h2, h3, h4⟩ := rowT_spec hr
  unfold aAppend; dsimp only; rw [he, hx]; simp only [hs, hz, hb]
  rw [if_pos ⟨h1, h2, h3, ho, ht⟩]
  rfl
omit hr in
theorem srcT_row {tx : TypeId} {z : Value} (h : rowT P tx = some z) (a : Option Addr) (n c : Nat) : srcT P tx (.slice a n c) = true := by
  obtain ⟨e, by_, he, _⟩ := rowT_spec h
  unfold srcT; dsimp only; rw [und_elem he]
end

/-- A struct's zero cells and the places of its fields. -/
def structT (P : Program) (t : TypeId) : Option (List Value × List (Nat × Nat)) :=
  match zeroT P t with
  | some z => if closed z = true then
      match P.underlying t with
      | some (.struct fields) => if fields.toList.all (fun f => (szT P f.type).isSome) = true then some (z.cells.toList, fields.toList.map fun f => (f.offset, (szT P f.type).getD 0)) else none
      | _ => none
    else none
  | none => none
def fillS (pl : List (Nat × Nat)) (cs : List Value) : List (Nat × Value) → Option (List Value)
  | [] => some cs
  | (i, v) :: rest => match pl[i]? with
    | some (off, size) => if v.cells.toList.length = size ∧ off + v.cells.toList.length ≤ cs.length then fillS pl (setAll cs off v.cells.toList) rest else none
    | none => none
theorem foldl_setAll : ∀ (l : List Value) (cs : List Value) (off k : Nat), (l.zipIdx k).foldl (fun (cs : Array Value) (x : Value × Nat) => cs.setIfInBounds (off + x.2) x.1) cs.toArray = (setAll cs (off + k) l).toArray := by
  intro l
  induction l with
  | nil => intro cs off k; rfl
  | cons v l ih =>
    intro cs off k
    simp only [List.zipIdx_cons, List.foldl_cons, List.setIfInBounds_toArray, setAll]
    rw [ih _ off (k + 1)]
    rfl
theorem build_of {P : Program} {t : TypeId} {z : List Value} {pl : List (Nat × Nat)} (h : structT P t = some (z, pl)) (l : List (Nat × Value)) {out : List Value} (hl : fillS pl z l = some out) : aBuild P t l = some (.agg ⟨out⟩) := by
  unfold structT at h
  split at h
  case h_2 => cases h
  rename_i z0 hz
  split at h
  case isFalse => cases h
  rename_i hc
  split at h
  case h_2 => cases h
  rename_i fields hu
  split at h
  case isFalse => cases h
  rename_i ha
  cases h
  unfold aBuild
  rw [hz]; dsimp only; rw [if_pos hc, hu]; dsimp only; rw [if_pos ha]
  have key : ∀ (l : List (Nat × Value)) (cs out : List Value), fillS (fields.toList.map fun f => (f.offset, (szT P f.type).getD 0)) cs l = some out →
      Instr.fill (fun i => (fields[i]?).bind fun f => (szT P f.type).map fun n => (f.offset, n)) cs.toArray l = some out.toArray := by
    intro l
    induction l with
    | nil => intro cs out h; simp only [fillS, Option.some.injEq] at h; subst h; rfl
    | cons p l ih =>
      obtain ⟨i, v⟩ := p
      intro cs out h
      unfold fillS at h
      split at h
      case h_2 => cases h
      rename_i off size hp
      split at h
      case isFalse => cases h
      rename_i hcc
      simp only [List.getElem?_map, Option.map_eq_some_iff, Prod.mk.injEq] at hp
      obtain ⟨f, hf, rfl, hn⟩ := hp
      have hf' : fields[i]? = some f := by simpa using hf
      have hs : szT P f.type = some size := by
        have hm : f ∈ fields.toList := List.mem_of_getElem? hf
        obtain ⟨n, hn'⟩ := Option.isSome_iff_exists.1 (List.all_eq_true.1 ha f hm)
        rw [hn'] at hn ⊢; simpa using hn
      unfold Instr.fill
      simp only [hf', Option.bind_some, hs, Option.map_some]
      have h1 : v.cells.size = size := by simpa using hcc.1
      have h2 : f.offset + v.cells.size ≤ cs.length := by simpa using hcc.2
      rw [if_neg (by simp [h1]; omega)]
      have e : v.cells.zipIdx.foldl (fun (cs : Array Value) (x : Value × Nat) => cs.setIfInBounds (f.offset + x.2) x.1) cs.toArray = (setAll cs f.offset v.cells.toList).toArray := by
        have := foldl_setAll v.cells.toList cs f.offset 0
        rw [Nat.add_zero] at this
        rw [← this, ← Array.foldl_toList]
        simp
      have e2 : (Array.foldl (fun cs x => match x with | (c, j) => cs.setIfInBounds (f.offset + j) c) cs.toArray v.cells.zipIdx) = (setAll cs f.offset v.cells.toList).toArray := e
      rw [e2]
      exact ih _ _ h
  have := key l z0.cells.toList out hl
  rw [show z0.cells.toList.toArray = z0.cells by simp] at this
  rw [this]; rfl

end Go.Proofs.Ytnhhdgopgecggaa.Abs
