/- Layer Av, part 0: abstract values (frozen slices inline, named objects) and what a machine value has to do with them. No program is named here. -/
import Derived.WalkKit
import Derived.ProofKit
import Derived.WalkSpells
set_option linter.unusedVariables false
set_option linter.unusedSimpArgs false
namespace Go.Proofs.Ytdboofnogabefaa
namespace Av
open Go.RowKit
/-- What is known of memory that stays as it is: block, place, value. -/
abbrev Vw := Nat → Nat → Option Value
def Vw.le (V V' : Vw) : Prop := ∀ b o u, V b o = some u → V' b o = some u
theorem Vw.le_refl (V : Vw) : V.le V := fun _ _ _ h => h
theorem Vw.le_trans {A B C : Vw} (h : A.le B) (k : B.le C) : A.le C := fun b o u e => k b o u (h b o u e)
def Vw.sub (V : Vw) (w : World) : Prop := ∀ b o u, V b o = some u → w.cell? ⟨b, o, none⟩ = some u
/-- All of memory, as it lies. -/
def full (w : World) : Vw := fun b o => w.cell? ⟨b, o, none⟩
theorem full_sub (w : World) : (full w).sub w := fun _ _ _ h => h
theorem Vw.sub_lt {V : Vw} {w : World} (h : V.sub w) {b o : Nat} {u : Value} (e : V b o = some u) : b < w.heap.size :=
  World.block_lt_of_cell? w _ (h b o u e)
/-- One cell of frozen data: a value by itself, or a slice with all that it holds (sz cells an element). -/
inductive FV where
  | v (x : Value)
  | sl (sz : Nat) (xs : List (List FV))
inductive RF (V : Vw) : Value → FV → Prop where
  | v {x : Value} (h : x.oneCell' = true) : RF V x (.v x)
  | sl {A : Option Addr} {len cap sz : Nat} {xs : List (List FV)} {b off : Nat} (u : Nat → Nat → Value)
      (hl : xs.length = len) (hc : len ≤ cap) (hm : cap ≤ 9223372036854775807) (hA : 0 < len → A = some ⟨b, off, none⟩)
      (hs : ∀ (j : Nat) (x : List FV), xs[j]? = some x → x.length = sz)
      (hV : ∀ (j : Nat) (x : List FV) (i : Nat) (y : FV), xs[j]? = some x → x[i]? = some y → V b (off + j * sz + i) = some (u j i))
      (hr : ∀ (j : Nat) (x : List FV) (i : Nat) (y : FV), xs[j]? = some x → x[i]? = some y → RF V (u j i) y) : RF V (.slice A len cap) (.sl sz xs)
theorem RF.mono {V V' : Vw} (hle : V.le V') {x : Value} {f : FV} (h : RF V x f) : RF V' x f := by
  induction h with
  | v h => exact .v h
  | sl u hl hc hm hA hs hV hr ih => exact .sl u hl hc hm hA hs (fun j x i y h1 h2 => hle _ _ _ (hV j x i y h1 h2)) ih
theorem RF.oneCell {V : Vw} {x : Value} {f : FV} (h : RF V x f) : x.oneCell' = true := by cases h <;> first | assumption | rfl
/-- One cell of a frame or an object. -/
inductive AC where
  | c (f : FV)
  | ptr (k off : Nat)                      -- into object k
  | pa (k sz i off : Nat)                  -- into element i of the array object k
  | ow (k : Nat)                           -- the slice of array object k
  | vw (k hi : Nat)                        -- its first elements, to look at
  | tk (k sz : Nat) (xs : List (List FV))  -- a frozen slice, and the right k to append to it in place
  | ep (cs : List FV)                      -- a pointer to frozen cells
  | e0                                     -- an empty slice without room
  | rp (f : FV)                            -- the reader that a callee is handed as its object 0
  | junk
/-- A value of one cell, or a struct's cells. -/
inductive AW where
  | o (x : AC)
  | g (cs : List AC)
inductive AV where
  | w (x : AW)
  | fn (f : Fn) (first cap : List AW)
  | tup (xs : List AW)
def RC (V : Vw) (O : Nat → Option Value) (x : Value) : AC → Prop
  | .c f => RF V x f
  | .ptr k off => ∃ b, O k = some (.pointer (some ⟨b, 0, none⟩)) ∧ x = .pointer (some ⟨b, off, none⟩)
  | .pa k sz i off => ∃ b n c, O k = some (.slice (some ⟨b, 0, none⟩) n c) ∧ x = .pointer (some ⟨b, i * sz + off, none⟩)
  | .ow k => O k = some x ∧ x.oneCell' = true
  | .vw k hi => ∃ b n c, O k = some (.slice (some ⟨b, 0, none⟩) n c) ∧ x = .slice (some ⟨b, 0, none⟩) hi c ∧ hi ≤ n
  | .tk k sz xs => O k = some x ∧ RF V x (.sl sz xs)
  | .ep cs => ∃ b off, x = .pointer (some ⟨b, off, none⟩) ∧ ∀ (i : Nat) y, cs[i]? = some y → ∃ u, V b (off + i) = some u ∧ RF V u y
  | .e0 => ∃ A, x = .slice A 0 0
  | .rp f => ∃ b, x = .pointer (some ⟨b, 0, none⟩)
  | .junk => True
theorem RC.mono {V V' : Vw} {O O' : Nat → Option Value} (hV : V.le V') (hO : ∀ k v, O k = some v → O' k = some v) {x : Value} {a : AC} (h : RC V O x a) : RC V' O' x a := by
  cases a with
  | c f => exact RF.mono hV h
  | ptr k off => obtain ⟨b, h1, h2⟩ := h; exact ⟨b, hO _ _ h1, h2⟩
  | pa k sz i off => obtain ⟨b, n, c, h1, h2⟩ := h; exact ⟨b, n, c, hO _ _ h1, h2⟩
  | ow k => exact ⟨hO _ _ h.1, h.2⟩
  | vw k hi => obtain ⟨b, n, c, h1, h2⟩ := h; exact ⟨b, n, c, hO _ _ h1, h2⟩
  | tk k sz xs => exact ⟨hO _ _ h.1, RF.mono hV h.2⟩
  | ep cs => obtain ⟨b, off, h1, h2⟩ := h; exact ⟨b, off, h1, fun i y hy => by obtain ⟨u, h3, h4⟩ := h2 i y hy; exact ⟨u, hV _ _ _ h3, RF.mono hV h4⟩⟩
  | e0 => exact h
  | rp f => exact h
  | junk => trivial
/-- Cells one by one. -/
def RCs (V : Vw) (O : Nat → Option Value) (xs : List Value) (as : List AC) : Prop :=
  xs.length = as.length ∧ ∀ (i : Nat) x a, xs[i]? = some x → as[i]? = some a → RC V O x a ∧ x.oneCell' = true
def RW (V : Vw) (O : Nat → Option Value) (x : Value) : AW → Prop
  | .o a => RC V O x a ∧ (a ≠ .junk → x.oneCell' = true)
  | .g cs => ∃ l : List Value, x = .agg l.toArray ∧ RCs V O l cs
def RWs (V : Vw) (O : Nat → Option Value) (xs : List Value) (as : List AW) : Prop :=
  xs.length = as.length ∧ ∀ (i : Nat) x a, xs[i]? = some x → as[i]? = some a → RW V O x a
def RV (V : Vw) (O : Nat → Option Value) (x : Value) : AV → Prop
  | .w a => RW V O x a
  | .fn f first cap => ∃ l m : List Value, x = .func f l.toArray m.toArray ∧ RWs V O l first ∧ RWs V O m cap
  | .tup xs => ∃ l : List Value, x = .tuple l.toArray ∧ RWs V O l xs
section
variable {V V' : Vw} {O O' : Nat → Option Value} (hV : V.le V') (hO : ∀ k v, O k = some v → O' k = some v)
include hV hO
theorem RCs.mono {xs : List Value} {as : List AC} (h : RCs V O xs as) : RCs V' O' xs as :=
  ⟨h.1, fun i x a h1 h2 => ⟨(h.2 i x a h1 h2).1.mono hV hO, (h.2 i x a h1 h2).2⟩⟩
theorem RW.mono {x : Value} {a : AW} (h : RW V O x a) : RW V' O' x a := by
  cases a with
  | o a => exact ⟨h.1.mono hV hO, h.2⟩
  | g cs => obtain ⟨l, h1, h2⟩ := h; exact ⟨l, h1, h2.mono hV hO⟩
theorem RWs.mono {xs : List Value} {as : List AW} (h : RWs V O xs as) : RWs V' O' xs as :=
  ⟨h.1, fun i x a h1 h2 => (h.2 i x a h1 h2).mono hV hO⟩
theorem RV.mono {x : Value} {a : AV} (h : RV V O x a) : RV V' O' x a := by
  cases a with
  | w a => exact RW.mono hV hO h
  | fn f first cap => obtain ⟨l, m, h1, h2, h3⟩ := h; exact ⟨l, m, h1, h2.mono hV hO, h3.mono hV hO⟩
  | tup xs => obtain ⟨l, h1, h2⟩ := h; exact ⟨l, h1, h2.mono hV hO⟩
end
/-! ### short names -/
abbrev cI (n : Int) : AC := .c (.v (.int .i64 n))
abbrev cB (b : Bool) : AC := .c (.v (.bool b))
abbrev I (n : Int) : AV := .w (.o (.c (.v (.int .i64 n))))
abbrev B (b : Bool) : AV := .w (.o (.c (.v (.bool b))))
abbrev S (sz : Nat) (xs : List (List FV)) : AV := .w (.o (.c (.sl sz xs)))
abbrev J : AV := .w (.o .junk)
/-- What an operation leaves that was not wanted. -/
abbrev U : AV := .tup []
abbrev fI (n : Int) : FV := .v (.int .i64 n)
end Av
end Go.Proofs.Ytdboofnogabefaa
/- Layer Av, part 1: objects, states, the small language into which a Go function's code is turned, and what its pieces ask for (awp). No program is named here. -/
namespace Go.Proofs.Ytdboofnogabefaa
namespace Av
open Go.RowKit
abbrev Env := Nat → AV
abbrev LIM : Nat := 1099511627776
/-- What a named object holds. -/
inductive Ob where
  | cells (cs : List AC)                    -- a variable
  | arr (T sz : Nat) (xs : List (List AC))  -- an array that may be written, seen by one slice from its head
  | tok (T sz n : Nat)                      -- the room behind n frozen elements
  | rd (f : FV)                             -- a reader of bytes: the bytes, and some place
abbrev Hp := Nat → Option Ob
def upd (d : Nat) (r : AV) (fr : Env) : Env := fun t => if t = d then r else fr t
def updo (d : Option Nat) (r : AV) (fr : Env) : Env := match d with | some d => upd d r fr | none => fr
def hupd (k : Nat) (ob : Option Ob) (H : Hp) : Hp := fun j => if j = k then ob else H j
def OR (V : Vw) (O : Nat → Option Value) (own : Nat → Option Nat) (w : World) (rm : Nat) (k : Nat) : Ob → Prop
  | .cells cs => ∃ (b T : Nat) (l : List Value), O k = some (.pointer (some ⟨b, 0, none⟩)) ∧ own b = some k ∧ w.heap[b]? = some (.cells l.toArray T (0, 0)) ∧ RCs V O l cs
  | .arr T sz xs => (∀ (j : Nat) x, xs[j]? = some x → x.length = sz) ∧ ((xs = [] ∧ ∃ A, O k = some (.slice A 0 0)) ∨
      ∃ (b cap : Nat) (l m : List Value), O k = some (.slice (some ⟨b, 0, none⟩) xs.length cap) ∧ own b = some k ∧ w.heap[b]? = some (.cells (l ++ m).toArray T (0, 0)) ∧
        xs.length ≤ cap ∧ cap ≤ 9223372036854775807 ∧ cap * sz ≤ l.length + m.length ∧ RCs V O l xs.flatten)
  | .tok T sz n => (n = 0 ∧ ∃ A, O k = some (.slice A 0 0)) ∨
      ∃ (b cap : Nat) (l m : List Value), O k = some (.slice (some ⟨b, 0, none⟩) n cap) ∧ own b = some k ∧ w.heap[b]? = some (.cells (l ++ m).toArray T (0, 0)) ∧
        n ≤ cap ∧ cap ≤ 9223372036854775807 ∧ cap * sz ≤ l.length + m.length ∧ l.length = n * sz ∧ ∀ (i : Nat) u, l[i]? = some u → V b i = some u
  | .rd f => ∃ (b T : Nat) (x : Value) (p : Int), O k = some (.pointer (some ⟨b, 0, none⟩)) ∧ own b = some k ∧ w.heap[b]? = some (.cells #[x, .int .i64 p] T (0, 0)) ∧ RF V x f ∧ 0 ≤ p ∧ p ≤ rm
/-- Where a function began. -/
structure Base where
  w : World
  V : Vw
  own : Nat → Option Nat
  O : Nat → Option Value
/-- The machine's world, and what is known of it. -/
structure WR (bs : Base) (V : Vw) (O : Nat → Option Value) (own : Nat → Option Nat) (dom : Nat → Prop) (w : World) (H : Hp) (rm : Nat) : Prop where
  sub : V.sub w
  vo : ∀ b o u, V b o = some u → own b = none ∨ ∃ k T sz n, own b = some k ∧ H k = some (.tok T sz n) ∧ o < n * sz
  obs : ∀ k ob, H k = some ob → OR V O own w rm k ob
  domO : ∀ k v, O k = some v → dom k
  domH : ∀ k ob, H k = some ob → dom k
  ownb : ∀ b k, own b = some k → b < w.heap.size ∧ (bs.own b ≠ none ∨ bs.w.heap.size ≤ b) ∧ dom k
  uniq : ∀ b b' k, own b = some k → own b' = some k → b = b'
  vb : ∀ b o u, V b o = some u → bs.V b o ≠ none ∨ bs.w.heap.size ≤ b ∨ bs.own b ≠ none
  v0 : bs.V.le V
  os : w.os = bs.w.os
  tape : w.tape = bs.w.tape
  output : w.output = bs.w.output
  size : bs.w.heap.size ≤ w.heap.size
  block : ∀ b, b < bs.w.heap.size → bs.own b = none → w.heap[b]? = bs.w.heap[b]?
  o0 : ∀ k v, bs.O k = some v → O k = some v
def FR (V : Vw) (O : Nat → Option Value) (a : Act) (fr : Env) : Prop := a.defers = [] ∧ ∀ t, RV V O (a.tmps.getD t undef) (fr t)
/-! ### which names stand in it -/
def okC (D : Nat → Prop) : AC → Prop
  | .ptr k _ | .pa k _ _ _ | .ow k | .tk k _ _ | .vw k _ => D k
  | _ => True
def okW (D : Nat → Prop) : AW → Prop
  | .o x => okC D x
  | .g cs => ∀ c, c ∈ cs → okC D c
def okV (D : Nat → Prop) : AV → Prop
  | .w x => okW D x
  | .fn _ first cap => (∀ c, c ∈ first → okW D c) ∧ ∀ c, c ∈ cap → okW D c
  | .tup xs => ∀ c, c ∈ xs → okW D c
def okOb (D : Nat → Prop) : Ob → Prop
  | .cells cs => ∀ c, c ∈ cs → okC D c
  | .arr _ _ xs => ∀ x, x ∈ xs → ∀ c, c ∈ x → okC D c
  | _ => True
def noN (_ : Nat) : Prop := False
/-! ### contracts -/
def scal : AV → Prop
  | .w (.o (.c (.v _))) => True
  | .w (.g cs) => ∀ c, c ∈ cs → ∃ x, c = .c (.v x)
  | _ => False
/-- No name of an object stands in it. -/
def clC : AC → Bool
  | .c _ | .ep _ | .e0 | .junk => true
  | _ => false
def clW : AW → Bool
  | .o x => clC x
  | .g cs => cs.all clC
def clV : AV → Bool
  | .w x => clW x
  | .fn _ first cap => first.all clW && cap.all clW
  | .tup _ => false
/-- A callee's arguments: no names; a reader at the head alone. -/
def clArgs : List AV → Bool
  | .w (.o (.rp _)) :: r => r.all clV
  | l => l.all clV
/-- A function that writes nothing that was there: what it asks of its arguments, what it hands back; cost: how far it may move a reader on. -/
structure FSpec where
  pre : List AV → Prop
  post : List AV → AV → Prop
  inh : ∀ args, pre args → ∃ r, post args r ∧ okV noN r
  cost : Nat
  sc : Bool     -- what is handed back are numbers and bools alone
  hsc : sc = true → ∀ args r, post args r → scal r
  hcl : ∀ args, pre args → clArgs args = true
/-- A function that is handed objects (0, 1, ..), and may hand back new ones. -/
structure MSpec where
  pre : List AV → List Ob → Prop
  post : List AV → List Ob → AV → List (Option Ob) → Prop
  inh : ∀ args obs, pre args obs → ∃ r obs', post args obs r obs' ∧ okV (· < obs'.length) r ∧ ∀ (j : Nat) ob, obs'[j]? = some (some ob) → okOb (· < obs'.length) ob
  cost : Nat
  st : Nat      -- it may hand back 16 new objects, and as many more
  hlen : ∀ args obs r obs', post args obs r obs' → obs.length ≤ obs'.length ∧ obs'.length ≤ obs.length + (16 + st)
  nk : Bool     -- no objects are handed over
  hnk : nk = true → ∀ args obs, pre args obs → obs = []
  ar : Bool := false   -- no variables are handed back
  har : ar = true → ∀ args obs r obs', post args obs r obs' → ∀ (j : Nat) (cs : List AC), obs'[j]? ≠ some (some (.cells cs)) := by intro h; cases h
  ta : Bool := false   -- rights to append alone are handed over and back
  hta : ta = true → (∀ args obs, pre args obs → ∀ (j : Nat) ob, obs[j]? = some ob → ∃ T s n, ob = .tok T s n) ∧
    ∀ args obs r obs', post args obs r obs' → ∀ (j : Nat) ob, obs'[j]? = some (some ob) → ∃ T s n, ob = .tok T s n := by intro h; cases h
  la : Bool := false   -- objects are looked at, and no more
  hla : la = true → ∀ args obs r obs', post args obs r obs' → obs' = obs.map some := by intro h; cases h
theorem okOb_no {D : Nat → Prop} {ob : Ob} (h : okOb noN ob) : okOb D ob := by
  cases ob with
  | cells cs =>
    intro c hc
    have := h c hc
    cases c <;> first | exact this.elim | trivial
  | arr T sz xs =>
    intro x hx c hc
    have := h x hx c hc
    cases c <;> first | exact this.elim | trivial
  | tok _ _ _ => exact h
  | rd _ => exact h
/-- An array of numbers and bools alone. -/
def flatO : Ob → Prop
  | .arr _ _ xs => ∀ x, x ∈ xs → ∀ c, c ∈ x → ∃ v, c = .c (.v v)
  | _ => False
/-- A function that is handed data and hands back one new array, the same each time. -/
structure OSpec where
  pre : List AV → Prop
  ob : List AV → Ob
  hok : ∀ args, okOb noN (ob args)
  hcl : ∀ args, pre args → args.all clV = true
  fl : Bool     -- the array holds numbers and bools alone: so the arguments may be borrowed
  hfl : fl = true → ∀ args, flatO (ob args)
def OSpec.toM (S : OSpec) : MSpec where
  pre args obs := obs = [] ∧ S.pre args
  post args obs r obs' := obs = [] ∧ r = .w (.o (.ow 0)) ∧ obs' = [some (S.ob args)]
  inh := fun args obs ⟨h, _⟩ => ⟨_, _, ⟨h, rfl, rfl⟩, Nat.one_pos, fun j ob e => by
    cases j with
    | zero => cases e; exact okOb_no (S.hok args)
    | succ j => simp at e⟩
  cost := 0
  st := 0
  hlen := fun args obs r obs' ⟨h, _, h'⟩ => by rw [h, h']; exact ⟨by simp, by simp⟩
  nk := true
  hnk := fun _ args obs h => h.1
/-! ### the language -/
inductive X where
  | t (n : Nat)
  | k (v : Value)
  | fn (f : Nat)
/-- A constant's cell. -/
def ofV : Value → AC
  | .slice none 0 0 => .e0
  | v => .c (.v v)
def ofW : Value → AW
  | .agg cs => .g (cs.toList.map ofV)
  | v => .o (ofV v)
def ev (fr : Env) : X → AV
  | .t n => fr n
  | .k v => .w (ofW v)
  | .fn f => .fn (.func f) [] []
inductive AO where
  | mv (x : X)
  | pick (c a b : X)
  | alloc (zs : List Value)
  | box (x : X)
  | build (zs : List Value) (ps : List (Nat × Nat × X))
  | bsl (T sz : Nat) (xs : List X)
  | bsl0 (T sz : Nat)   -- an empty slice that nobody appends to
  | bslf (tk : Bool) (T sz : Nat) (xs : List X)   -- a slice that nobody writes; tk: it is appended to
  | load (n : Option Nat) (p : X)
  | store (n : Nat) (p x : X)
  | nilc (x : X)
  | bin (kd : Nat) (op : BinOp) (x y : X)   -- kd: 0 whole numbers, 1 bools, 2 pointers, 3 slices
  | eqs (neg : Bool) (T n : Nat) (x y : X)
  | un (op : UnOp) (x : X)
  | conv (k : IntKind) (x : X)
  | mkfn (f : Fn) (first cap : List X)
  | mksl (T sz bytes : Nat) (zs : List Value) (l c : X)
  | slc (sz : Nat) (x : X) (lo hi mx : Option X)
  | slv (sz : Nat) (x hi : X)   -- how an array begins, to look at
  | clip (sz : Nat) (x hi mx : X)   -- an array's whole slice, without the room behind it
  | fld (off : Nat) (p : X)
  | idx (sz : Nat) (x i : X)
  | ext (x : X) (i : Nat)
  | len (x : X)
  | mnmx (min : Bool) (x y : X)
  | app (T sz bytes : Nat) (zs : List Value) (s x : X)
  | call (f : Nat) (S : FSpec) (xs : List (X × List (Option Nat)))
  | callv (x : X) (S : FSpec) (xs : List (X × List (Option Nat)))
  | callm (f : Nat) (S : MSpec) (xs : List (X × List (Option Nat)))
  | callo (f : Nat) (S : OSpec) (xs : List (X × List (Option Nat)))
  | callb (f : Nat) (S : MSpec) (xs : List (X × List (Option Nat)))   -- its arguments are lent; what it hands back is new
structure Op1 where
  d : Option Nat
  g : Option (Nat × Bool)
  o : AO
inductive A where
  | rg (ops : List Op1)
  | rgp (pairs : List (Nat × Nat)) (ops : List Op1)   -- pairs: slots that point to different objects
  | seq (a b : A)
  | cond (x : X) (a b : A)
  | block (id : Nat) (a : A)
  | loop (a : A)
  | exit (id : Nat)
  | ret
  | skip
  | dead
  | frz (t : Nat) (a : A)   -- no code: from here on nobody writes what the slot's slice shows
  | tke (t off T sz : Nat) (a : A)   -- no code: an empty slice in a variable's cell is one to append to, whose elements nobody writes
/-! ### small reckonings -/
/-- The cells that a pointer's load of n cells gives. -/
def ldc (H : Hp) : AV → Nat → Option (List AC)
  | .w (.o (.ptr k off)), n => match H k with
    | some (.cells cs) => if off + n ≤ cs.length then some ((cs.drop off).take n) else none
    | _ => none
  | .w (.o (.pa k sz i off)), n => match H k with
    | some (.arr _ sz' xs) => if sz' = sz ∧ off + n ≤ sz then (xs[i]?).map fun x => (x.drop off).take n else none
    | _ => none
  | .w (.o (.ep cs)), n => if n ≤ cs.length then some ((cs.take n).map AC.c) else none
  | _, _ => none
def mkw : Option Nat → List AC → AV
  | some _, cs => .w (.g cs)
  | none, [c] => .w (.o c)
  | none, _ => J
def cellsOf : AV → Option (List AC)
  | .w (.o .junk) => none
  | .w (.o x) => some [x]
  | .w (.g cs) => some cs
  | _ => none
def awOf : AV → Option AW
  | .w x => some x
  | _ => none
def intOp (op : BinOp) (k : IntKind) (x y : Int) : Option AV :=
  match op with
  | .add => some (.w (.o (.c (.v (.int k (k.wrap (x + y)))))))
  | .sub => some (.w (.o (.c (.v (.int k (k.wrap (x - y)))))))
  | .mul => some (.w (.o (.c (.v (.int k (k.wrap (x * y)))))))
  | .quo => if y = 0 then none else some (.w (.o (.c (.v (.int k (k.wrap (x.tdiv y)))))))
  | .rem => if y = 0 then none else some (.w (.o (.c (.v (.int k (x.tmod y))))))
  | .eql => some (B (x == y))
  | .neq => some (B (x != y))
  | .lss => some (B (decide (x < y)))
  | .leq => some (B (decide (x ≤ y)))
  | .gtr => some (B (decide (x > y)))
  | .geq => some (B (decide (x ≥ y)))
  | .xor => some (.w (.o (.c (.v (.int k (k.wrap (BitVec.ofInt k.bits x ^^^ BitVec.ofInt k.bits y).toNat))))))
  | _ => none
def isPtr : AC → Bool
  | .ptr _ _ | .pa _ _ _ _ | .ep _ => true
  | _ => false
def lenA (H : Hp) : AV → Option Nat
  | .w (.o (.c (.sl _ xs))) => some xs.length
  | .w (.o (.tk _ _ xs)) => some xs.length
  | .w (.o .e0) => some 0
  | .w (.o (.ow k)) => match H k with | some (.arr _ _ xs) => some xs.length | _ => none
  | .w (.o (.vw k hi)) => match H k with | some (.arr _ _ _) => some hi | _ => none
  | _ => none
/-- A slice's frozen elements, if they are such. -/
def frz : AV → Option (List (List FV))
  | .w (.o (.c (.sl _ xs))) => some xs
  | .w (.o (.tk _ _ xs)) => some xs
  | .w (.o .e0) => some []
  | _ => none
def fcells : List AC → Option (List FV)
  | [] => some []
  | .c f :: r => (fcells r).map (f :: ·)
  | _ :: _ => none
def fcellss : List (List AC) → Option (List (List FV))
  | [] => some []
  | x :: r => (fcells x).bind fun y => (fcellss r).map (y :: ·)
/-- All of a list, if each is something. -/
def allO {α β : Type} (g : α → Option β) : List α → Option (List β)
  | [] => some []
  | x :: r => (g x).bind fun y => (allO g r).map (y :: ·)
/-- The elements' size of an empty slice in a cell of an element of a size. -/
def e0sz (n : Nat) : Nat := if n = 2 then 4 else if n = 4 then 2 else if n = 8 then 4 else n
/-- What a cell shows, through the objects that it names; not deeper than d. -/
def deep (H : Hp) : Nat → Nat → AC → Option FV
  | 0, _, _ => none
  | d + 1, sz, c => match c with
    | .c f => some f
    | .tk _ s xs => some (.sl s xs)
    | .e0 => some (.sl (e0sz sz) [])
    | .ow k => match H k with
      | some (.arr _ s xs) => (allO (allO (deep H d s)) xs).map (.sl s ·)
      | _ => none
    | _ => none
/-- An argument as a callee that only reads sees it. 'sh': for a slice's cell its elements' size. -/
def bor (H : Hp) (sh : Option Nat) : AC → AC
  | .c f => .c f
  | .tk _ sz xs => .c (.sl sz xs)
  | .e0 => match sh with | some sz => .c (.sl sz []) | none => .e0
  | .ow k => match H k with
    | some (.arr _ sz xs) => match fcellss xs with
      | some ys => .c (.sl sz ys)
      | none => match allO (allO (deep H 3 sz)) xs with | some ys => .c (.sl sz ys) | none => .ow k
    | _ => .ow k
  | .ptr k off => match H k with
    | some (.cells cs) => match fcells cs with | some ys => .ep (ys.drop off) | none => .ptr k off
    | some (.rd f) => if off = 0 then .rp f else .ptr k off
    | _ => .ptr k off
  | .vw k hi => match H k with
    | some (.arr _ sz xs) => match fcellss xs with | some ys => .c (.sl sz (ys.take hi)) | none => .vw k hi
    | _ => .vw k hi
  | x => x
def borC (H : Hp) : List (Option Nat) → List AC → List AC
  | s :: ss, c :: cs => bor H s c :: borC H ss cs
  | [], c :: cs => bor H none c :: borC H [] cs
  | _, [] => []
def borW (H : Hp) (sh : List (Option Nat)) : AW → AW
  | .o x => .o (bor H (sh.headD none) x)
  | .g cs => .g (borC H sh cs)
def borV (H : Hp) (sh : List (Option Nat)) : AV → AV
  | .w x => .w (borW H sh x)
  | .fn f first cap => .fn f (first.map (borW H [])) (cap.map (borW H []))
  | .tup xs => .tup xs
def AC.ren (ρ : Nat → Nat) : AC → AC
  | .ptr k off => .ptr (ρ k) off
  | .pa k sz i off => .pa (ρ k) sz i off
  | .ow k => .ow (ρ k)
  | .vw k hi => .vw (ρ k) hi
  | .tk k sz xs => .tk (ρ k) sz xs
  | x => x
def AW.ren (ρ : Nat → Nat) : AW → AW
  | .o x => .o (x.ren ρ)
  | .g cs => .g (cs.map (AC.ren ρ))
def AV.ren (ρ : Nat → Nat) : AV → AV
  | .w x => .w (x.ren ρ)
  | .fn f first cap => .fn f (first.map (AW.ren ρ)) (cap.map (AW.ren ρ))
  | .tup xs => .tup (xs.map (AW.ren ρ))
def Ob.ren (ρ : Nat → Nat) : Ob → Ob
  | .cells cs => .cells (cs.map (AC.ren ρ))
  | .arr T sz xs => .arr T sz (xs.map fun x => x.map (AC.ren ρ))
  | .tok T sz n => .tok T sz n
  | .rd f => .rd f
end Av
end Go.Proofs.Ytdboofnogabefaa
/- Layer Av, part 2: what an operation gives, and what a piece of code asks for (awp). No program is named here. -/
namespace Go.Proofs.Ytdboofnogabefaa
namespace Av
open Go.RowKit
def rdOf : List AV → Option FV
  | .w (.o (.rp f)) :: _ => some f
  | _ => none
structure Kept (w w' : World) (own : Nat → Option Nat) : Prop where
  os : w'.os = w.os
  tape : w'.tape = w.tape
  output : w'.output = w.output
  size : w.heap.size ≤ w'.heap.size
  block : ∀ b, b < w.heap.size → own b = none → w'.heap[b]? = w.heap[b]?
def RVs (V : Vw) (O : Nat → Option Value) (xs : List Value) (as : List AV) : Prop :=
  xs.length = as.length ∧ ∀ (i : Nat) x a, xs[i]? = some x → as[i]? = some a → RV V O x a
/-- What a call of a function that writes nothing (but moves a reader on) comes to. -/
def FnR (P : Program) (f : Nat) (args : List AV) (cost rm : Nat) (post : AV → Prop) : Prop :=
  ∀ (V : Vw) (O : Nat → Option Value) (own : Nat → Option Nat) (w : World) (vals : List Value),
    V.sub w → (∀ k v, O k = some v → k = 0) → (∀ b k, own b = some k → k = 0 ∧ b < w.heap.size) → (∀ b b' k, own b = some k → own b' = some k → b = b') → (∀ b k o, own b = some k → V b o = none) → RVs V O vals args →
    (∀ f, rdOf args = some f → vals.head? = O 0 ∧ OR V O own w rm 0 (.rd f)) → (rdOf args = none → ∀ b, own b = none) →
    Calls P f vals.toArray w fun e w' => ∃ v r V', e = .returned v ∧ post r ∧ RV V' (fun _ => none) v r ∧ V.le V' ∧ V'.sub w' ∧
      (∀ b o u, V' b o = some u → V b o = some u ∨ w.heap.size ≤ b) ∧ Kept w w' own ∧ (∀ f, rdOf args = some f → OR V' O own w' (rm + cost) 0 (.rd f))
def callable (P : Program) (f : Nat) : Prop := ∃ fn, P.funcs[f]? = some fn ∧ fn.body.isSome = true ∧ fn.name ≠ "runtime.NumGoroutine"
def Valid (P : Program) (f : Nat) (S : FSpec) : Prop := callable P f ∧ ∀ args rm, S.pre args → rm + S.cost ≤ LIM → FnR P f args S.cost rm (S.post args)
/-- What a call of a function comes to that is handed objects 0, 1, .. -/
def FnM (P : Program) (f : Nat) (args : List AV) (obs : List Ob) (cost rm : Nat) (post : AV → List (Option Ob) → Prop) : Prop :=
  ∀ (V : Vw) (O : Nat → Option Value) (own : Nat → Option Nat) (w : World) (vals : List Value),
    V.sub w → (∀ k v, O k = some v → k < obs.length) → (∀ b k, own b = some k → k < obs.length ∧ b < w.heap.size) → (∀ b b' k, own b = some k → own b' = some k → b = b') →
    (∀ b o u, V b o = some u → own b = none ∨ ∃ (k T sz n : Nat), own b = some k ∧ obs[k]? = some (.tok T sz n) ∧ o < n * sz) →
    (∀ (k : Nat) ob, obs[k]? = some ob → OR V O own w rm k ob) → RVs V O vals args →
    Calls P f vals.toArray w fun e w' => ∃ v r obs' V' O' own', e = .returned v ∧ post r obs' ∧ RV V' O' v r ∧ V.le V' ∧ V'.sub w' ∧
      (∀ k v, O k = some v → O' k = some v) ∧ (∀ k v, O' k = some v → k < obs'.length) ∧
      (∀ (k : Nat) ob, obs'[k]? = some (some ob) → OR V' O' own' w' (rm + cost) k ob) ∧
      (∀ b o u, V' b o = some u → own' b = none ∨ ∃ (k T sz n : Nat), own' b = some k ∧ obs'[k]? = some (some (.tok T sz n)) ∧ o < n * sz) ∧
      (∀ b k, own' b = some k → k < obs'.length ∧ b < w'.heap.size ∧ (own b ≠ none ∨ w.heap.size ≤ b)) ∧ (∀ b b' k, own' b = some k → own' b' = some k → b = b') ∧
      (∀ b o u, V' b o = some u → V b o = some u ∨ w.heap.size ≤ b ∨ own b ≠ none) ∧ Kept w w' own
def ValidM (P : Program) (f : Nat) (S : MSpec) : Prop := callable P f ∧ ∀ args obs rm, S.pre args obs → rm + S.cost ≤ LIM → FnM P f args obs S.cost rm (S.post args obs)
/-- '==' on a struct of n whole numbers. -/
def EqInts (P : Program) (T n : Nat) : Prop := P.eqGuardType P.depth T = false ∧ ∀ (as bs : List Int), as.length = n → bs.length = n → ∀ w : World,
  (Op.equalIn 10000 T (.agg (as.map fun x => Value.int .i64 x).toArray) (.agg (bs.map fun x => Value.int .i64 x).toArray)).run P w = .ok (as == bs) w
inductive Out where
  | one (r : AV) (H : Hp)
  | any (pre : Prop) (cost : Nat) (R : AV → Prop)
def put (cs : List AC) (off : Nat) (ds : List AC) : List AC := cs.take off ++ ds ++ cs.drop (off + ds.length)
def fillA (fr : Env) : List AC → List (Nat × Nat × X) → Option (List AC)
  | cs, [] => some cs
  | cs, (off, n, x) :: r => match cellsOf (ev fr x) with
    | some ds => if ds.length = n ∧ off + n ≤ cs.length then fillA fr (put cs off ds) r else none
    | none => none
def cellssOf (fr : Env) (sz : Nat) : List X → Option (List (List AC))
  | [] => some []
  | x :: r => match cellsOf (ev fr x), cellssOf fr sz r with
    | some ds, some rest => if ds.length = sz then some (ds :: rest) else none
    | _, _ => none
def awsOf (fr : Env) : List X → Option (List AW)
  | [] => some []
  | x :: r => match awOf (ev fr x), awsOf fr r with
    | some a, some rest => some (a :: rest)
    | _, _ => none
def intsOf : List AC → Option (List Int)
  | [] => some []
  | .c (.v (.int .i64 n)) :: r => (intsOf r).map (n :: ·)
  | _ => none
def isNil : AC → Bool
  | .c (.v (.pointer none)) => true
  | _ => false
def binA (kd : Nat) (op : BinOp) (a b : AV) (y : X) (H : Hp) : Option Out :=
  match kd, a, b with
  | 0, .w (.o (.c (.v (.int k m)))), .w (.o (.c (.v (.int k' n)))) => if k = k' then (intOp op k m n).map fun r => .one r H else none
  | 1, .w (.o (.c (.v (.bool m)))), .w (.o (.c (.v (.bool n)))) => match op with
    | .eql => some (.one (B (m == n)) H)
    | .neq => some (.one (B (!(m == n))) H)
    | _ => none
  | 2, .w (.o p), .w (.o (.c (.v (.pointer none)))) => if isPtr p then (match op with
      | .eql => some (.one (B false) H)
      | .neq => some (.one (B true) H)
      | _ => none) else if isNil p then (match op with
      | .eql => some (.one (B true) H)
      | .neq => some (.one (B false) H)
      | _ => none) else none
  | 3, .w (.o (.c (.sl _ xs))), _ => (match op, y with
      | .eql, .k (.slice none 0 0) => some (.any True 0 fun r => ∃ t : Bool, r = B t ∧ (t = true → xs = []))
      | .neq, .k (.slice none 0 0) => some (.any True 0 fun r => ∃ t : Bool, r = B t ∧ (t = false → xs = []))
      | _, _ => none)
  | 3, .w (.o .e0), _ => (match op, y with
      | .eql, .k (.slice none 0 0) => some (.any True 0 fun r => ∃ t : Bool, r = B t)
      | .neq, .k (.slice none 0 0) => some (.any True 0 fun r => ∃ t : Bool, r = B t)
      | _, _ => none)
  | 3, .w (.o (.ow k)), _ => match H k with
    | some (.arr _ _ xs) => (match op, y with
      | .eql, .k (.slice none 0 0) => some (.any True 0 fun r => ∃ t : Bool, r = B t ∧ (t = true → xs = []))
      | .neq, .k (.slice none 0 0) => some (.any True 0 fun r => ∃ t : Bool, r = B t ∧ (t = false → xs = []))
      | _, _ => none)
    | _ => none
  | _, _, _ => none
def borArgs (fr : Env) (H : Hp) (xs : List (X × List (Option Nat))) : List AV := xs.map fun p => borV H p.2 (ev fr p.1)
/-- An argument for a callee that is handed objects: an empty slice as such. -/
def nrm (sh : Option Nat) : AC → AC
  | .e0 => match sh with | some sz => .c (.sl sz []) | none => .e0
  | x => x
def nrmC : List (Option Nat) → List AC → List AC
  | s :: ss, c :: cs => nrm s c :: nrmC ss cs
  | [], c :: cs => nrm none c :: nrmC [] cs
  | _, [] => []
def nrmV (sh : List (Option Nat)) : AV → AV
  | .w (.o x) => .w (.o (nrm (sh.headD none) x))
  | .w (.g cs) => .w (.g (nrmC sh cs))
  | x => x
def nrmArgs (fr : Env) (xs : List (X × List (Option Nat))) : List AV := xs.map fun p => nrmV p.2 (ev fr p.1)
/-- What a callee sees that hands back one new array. -/
def oArgs (fl : Bool) (fr : Env) (H : Hp) (xs : List (X × List (Option Nat))) : List AV := match fl with | true => borArgs fr H xs | false => nrmArgs fr xs
/-- Is an argument handed over as it is: nothing that the callee sees is written by the caller later. -/
def keeps (H : Hp) : AC → Bool
  | .c _ | .tk _ _ _ | .e0 | .ep _ => true
  | .ptr k off => match H k with | some (.rd _) => true | _ => false
  | _ => false
def keepsW (H : Hp) : AW → Bool
  | .o x => keeps H x
  | .g cs => cs.all (keeps H)
def keepsV (H : Hp) : AV → Bool
  | .w x => keepsW H x
  | .fn _ first cap => first.all (keepsW H) && cap.all (keepsW H)
  | .tup _ => false
def bnd (fr : Env) (dflt : Nat) : Option X → Option Nat
  | none => some dflt
  | some x => match ev fr x with
    | .w (.o (.c (.v (.int _ n)))) => if 0 ≤ n then some n.toNat else none
    | _ => none
def slcA (fr : Env) (sz : Nat) (a : AV) (lo hi mx : Option X) (H : Hp) : Option Out :=
  match a with
  | .w (.o (.c (.sl s xs))) | .w (.o (.tk _ s xs)) =>
    match bnd fr 0 lo, bnd fr xs.length hi with
    | some l, some h => match mx with
      | none => if s = sz ∧ l ≤ h ∧ h ≤ xs.length then some (.one (S sz ((xs.take h).drop l)) H) else none
      | some m => match bnd fr 0 (some m) with
        | some m' => if s = sz ∧ l ≤ h ∧ h ≤ m' ∧ m' ≤ xs.length then some (.one (if m' = l then .w (.o .e0) else S sz ((xs.take h).drop l)) H) else none
        | none => none
    | _, _ => none
  | .w (.o .e0) => match bnd fr 0 lo, bnd fr 0 hi, bnd fr 0 mx with
    | some 0, some 0, some 0 => some (.one (.w (.o .e0)) H)
    | _, _, _ => none
  | _ => none
def idxA (sz : Nat) (a i : AV) (H : Hp) : Option Out :=
  match a, i with
  | .w (.o (.c (.sl s xs))), .w (.o (.c (.v (.int _ n)))) => if s = sz ∧ 0 ≤ n then (xs[n.toNat]?).map fun e => .one (.w (.o (.ep e))) H else none
  | .w (.o (.tk _ s xs)), .w (.o (.c (.v (.int _ n)))) => if s = sz ∧ 0 ≤ n then (xs[n.toNat]?).map fun e => .one (.w (.o (.ep e))) H else none
  | .w (.o (.ow k)), .w (.o (.c (.v (.int _ n)))) => match H k with
    | some (.arr _ s xs) => if s = sz ∧ 0 ≤ n then (xs[n.toNat]?).map fun _ => .one (.w (.o (.pa k sz n.toNat 0))) H else none
    | _ => none
  | _, _ => none
def slvA (fr : Env) (sz : Nat) (a : AV) (hi : X) (H : Hp) : Option Out :=
  match a with
  | .w (.o (.ow k)) => match H k with
    | some (.arr _ s xs) => match bnd fr 0 (some hi) with
      | some h => if s = sz ∧ h ≤ xs.length ∧ 0 < xs.length then some (.one (.w (.o (.vw k h))) H) else none
      | none => none
    | _ => none
  | _ => none
def fldA (off : Nat) (p : AV) (H : Hp) : Option Out :=
  match p with
  | .w (.o (.ptr k o)) => some (.one (.w (.o (.ptr k (o + off)))) H)
  | .w (.o (.pa k sz i o)) => some (.one (.w (.o (.pa k sz i (o + off)))) H)
  | .w (.o (.ep cs)) => if off ≤ cs.length then some (.one (.w (.o (.ep (cs.drop off)))) H) else none
  | _ => none
def bslV (tk : Bool) (nm sz : Nat) (ys : List (List FV)) : AV := match tk with | true => .w (.o (.tk nm sz ys)) | false => S sz ys
/-- What an operation that writes nothing gives; nm: the name of what it makes. -/
noncomputable def sem (P : Program) (nm : Nat) (fr : Env) (H : Hp) : AO → Option Out
  | .mv x => some (.one (ev fr x) H)
  | .pick c a b => match ev fr c with
    | .w (.o (.c (.v (.bool t)))) => some (.one (if t then ev fr a else ev fr b) H)
    | _ => none
  | .alloc zs => some (.one (.w (.o (.ptr nm 0))) (hupd nm (some (.cells (zs.map ofV))) H))
  | .box x => match cellsOf (ev fr x) with
    | some cs => some (.one (.w (.o (.ptr nm 0))) (hupd nm (some (.cells cs)) H))
    | none => none
  | .build zs ps => match fillA fr (zs.map ofV) ps with
    | some cs => some (.one (.w (.g cs)) H)
    | none => none
  | .bsl T sz xs => match cellssOf fr sz xs with
    | some css => some (.one (.w (.o (.ow nm))) (hupd nm (some (.arr T sz css)) H))
    | none => none
  | .bsl0 T sz => some (.one (S sz []) (hupd nm (some (.arr T sz [])) H))
  | .bslf tk T sz xs => match cellssOf fr sz xs with
    | some css => match fcellss css with
      | some ys => some (.one (bslV tk nm sz ys) (hupd nm (some (.tok T sz css.length)) H))
      | none => none
    | none => none
  | .load n p => match ldc H (ev fr p) (n.getD 1) with
    | some cs => some (.one (mkw n cs) H)
    | none => none
  | .nilc x => match ev fr x with
    | .w (.o c) => if isPtr c then some (.one (.w (.o c)) H) else none
    | _ => none
  | .bin kd op x y => binA kd op (ev fr x) (ev fr y) y H
  | .eqs neg T n x y => match ev fr x, ev fr y with
    | .w (.g cs), .w (.g ds) => match intsOf cs, intsOf ds with
      | some as, some bs => if as.length = n ∧ bs.length = n then some (.any (EqInts P T n) 0 fun r => r = B (if neg then !(as == bs) else as == bs)) else none
      | _, _ => none
    | _, _ => none
  | .un op x => match op, ev fr x with
    | .not, .w (.o (.c (.v (.bool t)))) => some (.one (B (!t)) H)
    | .neg, .w (.o (.c (.v (.int k n)))) => some (.one (.w (.o (.c (.v (.int k (k.wrap (0 - n))))))) H)
    | _, _ => none
  | .conv k x => match ev fr x with
    | .w (.o (.c (.v (.int _ n)))) => some (.one (.w (.o (.c (.v (.int k (k.wrap n)))))) H)
    | _ => none
  | .mkfn f first cap => match awsOf fr first, awsOf fr cap with
    | some a, some b => some (.one (.fn f a b) H)
    | _, _ => none
  | .mksl T sz bytes zs l c => match ev fr l, ev fr c with
    | .w (.o (.c (.v (.int .i64 m)))), .w (.o (.c (.v (.int .i64 n)))) =>
      if 0 ≤ m ∧ m ≤ n ∧ n * bytes ≤ 140737488355328 ∧ n ≤ 4611686018427387904 then some (.one (.w (.o (.ow nm))) (hupd nm (some (.arr T sz (List.replicate m.toNat (zs.map ofV)))) H)) else none
    | _, _ => none
  | .slc sz x lo hi mx => slcA fr sz (ev fr x) lo hi mx H
  | .slv sz x hi => slvA fr sz (ev fr x) hi H
  | .fld off p => fldA off (ev fr p) H
  | .idx sz x i => idxA sz (ev fr x) (ev fr i) H
  | .ext x i => match ev fr x with
    | .tup xs => (xs[i]?).map fun a => .one (.w a) H
    | _ => none
  | .len x => (lenA H (ev fr x)).map fun (m : Nat) => .one (I (m : Int)) H
  | .mnmx mn x y => match ev fr x, ev fr y with
    | .w (.o (.c (.v (.int .i64 a)))), .w (.o (.c (.v (.int .i64 b)))) => some (.one (I (if mn then (if b < a then b else a) else (if b > a then b else a))) H)
    | _, _ => none
  | .call f S xs => some (.any (S.pre (borArgs fr H xs) ∧ Valid P f S ∧ ((xs.all fun p => keepsV H (ev fr p.1)) = true ∨ (S.sc = true ∧ rdOf (borArgs fr H xs) = none))) S.cost fun r => S.post (borArgs fr H xs) r ∧ okV noN r)
  | .callv x S xs => match ev fr x with
    | .fn (.func f) first cap =>
      let args := (first.map fun a => AV.w (borW H [] a)) ++ borArgs fr H xs ++ (cap.map fun a => AV.w (borW H [] a))
      some (.any (S.pre args ∧ S.sc = true ∧ rdOf args = none ∧ Valid P f S) S.cost fun r => S.post args r ∧ okV noN r)
    | _ => none
  | .callo f S xs => @ite _ (S.pre (oArgs S.fl fr H xs) ∧ ValidM P f S.toM) (Classical.propDecidable _) (some (.one (.w (.o (.ow nm))) (hupd nm (some (S.ob (oArgs S.fl fr H xs))) H))) none
  | .store .. | .app .. | .callm .. | .callb .. | .clip .. => none
/-- The cells that an append's second argument brings. -/
def news (H : Hp) (a : AV) : Option (List (List AC)) :=
  match a with
  | .w (.o (.ow k)) => match H k with | some (.arr _ _ xs) => some xs | _ => none
  | a => (frz a).map fun xs => xs.map fun x => x.map AC.c
def newsz (H : Hp) (sz : Nat) (a : AV) : Prop :=
  match a with
  | .w (.o (.ow k)) => match H k with | some (.arr _ s _) => s = sz | _ => False
  | .w (.o (.c (.sl s _))) | .w (.o (.tk _ s _)) => s = sz
  | _ => True
/-- The names that a callee's objects have behind the call: those that were handed over, then new ones. -/
def nmapS (s : Nat) (ks : List Nat) (nm : Nat) (i : Nat) : Nat := if h : i < ks.length then ks[i] else nm + min (i - ks.length) (15 + s)
abbrev nmap := nmapS 0
def hput (ρ : Nat → Nat) : Nat → List (Option Ob) → Hp → Hp
  | _, [], H => H
  | i, ob :: r, H => hput ρ (i + 1) r (hupd (ρ i) (ob.map (Ob.ren ρ)) H)
/-- Nothing frozen stands in it. -/
def plainC : AC → Prop
  | .c (.v _) | .ow _ | .e0 => True
  | _ => False
def plainW : AW → Prop
  | .o c => plainC c
  | .g cs => ∀ c, c ∈ cs → plainC c
def plainV : AV → Prop
  | .w c => plainW c
  | .tup xs => ∀ c, c ∈ xs → plainW c
  | _ => False
def plainO : Ob → Prop
  | .arr _ _ xs => ∀ x, x ∈ xs → ∀ c, c ∈ x → plainC c
  | _ => False
/-- What an operation asks for; K: what follows. -/
def opw (P : Program) (nm : Nat) (fr : Env) (H : Hp) (rm : Nat) (K : AV → Hp → Nat → Prop) : AO → Prop
  | .store n p x => match ev fr p, cellsOf (ev fr x) with
    | .w (.o (.ptr k off)), some ds => match H k with
      | some (.cells cs) => ds.length = n ∧ off + n ≤ cs.length ∧ K J (hupd k (some (.cells (put cs off ds))) H) rm
      | _ => False
    | .w (.o (.pa k sz i off)), some ds => match H k with
      | some (.arr T s xs) => match xs[i]? with
        | some e => s = sz ∧ ds.length = n ∧ off + n ≤ sz ∧ K J (hupd k (some (.arr T s (xs.set i (put e off ds)))) H) rm
        | none => False
      | _ => False
    | _, _ => False
  | .app T sz bytes zs s x => match news H (ev fr x) with
    | none => False
    | some ys => newsz H sz (ev fr x) ∧ (match ev fr s with
      | .w (.o (.ow k)) => match H k with
        | some (.arr T' s' xs) => T' = T ∧ s' = sz ∧ (xs.length + ys.length) * bytes ≤ 140737488355328 ∧ K (.w (.o (.ow nm))) (hupd nm (some (.arr T sz (xs ++ ys))) (hupd k none H)) rm
        | _ => False
      | .w (.o (.tk k s' xs)) => match H k, fcellss ys with
        | some (.tok T' s'' n), some zs => T' = T ∧ s' = sz ∧ s'' = sz ∧ n = xs.length ∧ (xs.length + zs.length) * bytes ≤ 140737488355328 ∧
            K (.w (.o (.tk nm sz (xs ++ zs)))) (hupd nm (some (.tok T sz (xs.length + zs.length))) (hupd k none H)) rm
        | _, _ => False
      | .w (.o .e0) => ys.length * bytes ≤ 140737488355328 ∧ K (.w (.o (.ow nm))) (hupd nm (some (.arr T sz ys)) H) rm
      | _ => False)
  | .clip sz x hi mx => (∃ (k T : Nat) (xs : List (List AC)), ev fr x = .w (.o (.ow k)) ∧ H k = some (.arr T sz xs) ∧ bnd fr 0 (some hi) = some xs.length ∧ bnd fr 0 (some mx) = some xs.length ∧
        K (.w (.o (.ow nm))) (hupd nm (some (.arr T sz xs)) (hupd k none H)) rm) ∨
      ((ev fr x = .w (.o .e0) ∨ ∃ s, ev fr x = .w (.o (.c (.sl s [])))) ∧ bnd fr 0 (some hi) = some 0 ∧ bnd fr 0 (some mx) = some 0 ∧ K (.w (.o .e0)) H rm)
  | .callm f S xs => ValidM P f S ∧ rm + S.cost ≤ LIM ∧ ∃ (ks : List Nat) (args : List AV) (obs : List Ob), ks.Nodup ∧ obs.length = ks.length ∧
      (∀ (i k : Nat), ks[i]? = some k → ∃ ob : Ob, obs[i]? = some ob ∧ H k = some (ob.ren (nmapS S.st ks nm))) ∧ args.map (AV.ren (nmapS S.st ks nm)) = nrmArgs fr xs ∧ S.pre args obs ∧
      ∀ r obs', S.post args obs r obs' → okV (· < obs'.length) r → (∀ (j : Nat) ob, obs'[j]? = some (some ob) → okOb (· < obs'.length) ob) → K (r.ren (nmapS S.st ks nm)) (hput (nmapS S.st ks nm) 0 obs' H) (rm + S.cost)
  | .callb f S xs => ValidM P f S ∧ S.cost = 0 ∧ S.pre (borArgs fr H xs) [] ∧ (borArgs fr H xs).all clV = true ∧ (∀ r obs', S.post (borArgs fr H xs) [] r obs' → plainV r ∧ ∀ (j : Nat) ob, obs'[j]? = some (some ob) → plainO ob) ∧
      ∀ r obs', S.post (borArgs fr H xs) [] r obs' → okV (· < obs'.length) r → (∀ (j : Nat) ob, obs'[j]? = some (some ob) → okOb (· < obs'.length) ob) → K (r.ren (nmapS S.st [] nm)) (hput (nmapS S.st [] nm) 0 obs' H) rm
  | o => match sem P nm fr H o with
    | none => False
    | some (.one r H') => K r H' rm
    | some (.any pre c R) => pre ∧ rm + c ≤ LIM ∧ ∀ r, R r → K r H (rm + c)
/-- How many names an operation takes. -/
def stp : AO → Nat
  | .callm _ S _ | .callb _ S _ => 16 + S.st
  | _ => 16
def tot : List Op1 → Nat
  | [] => 0
  | op :: r => stp op.o + tot r
def seqw (P : Program) (K : Env → Hp → Nat → Prop) : List Op1 → Nat → Env → Hp → Nat → Prop
  | [], _, fr, H, rm => K fr H rm
  | ⟨d, none, o⟩ :: r, nm, fr, H, rm => opw P nm fr H rm (fun v H' rm' => seqw P K r (nm + stp o) (updo d v fr) H' rm') o
  | ⟨d, some (s, want), o⟩ :: r, nm, fr, H, rm => match fr s with
    | .w (.o (.c (.v (.bool t)))) =>
      (t = want → opw P nm fr H rm (fun v H' rm' => seqw P K r (nm + stp o) (updo d v fr) H' rm') o) ∧
      ((!t) = want → seqw P K r (nm + stp o) (updo d U fr) H rm)
    | .tup [] => seqw P K r (nm + stp o) (updo d U fr) H rm
    | _ => False
inductive Ex where
  | normal
  | exit (id : Nat)
  | ret
abbrev Post := Ex → Env → Hp → Nat → Nat → Prop
def Post.seq (K : Env → Hp → Nat → Nat → Prop) (Q : Post) : Post
  | .normal => K
  | e => Q e
def Post.blk (id : Nat) (Q : Post) : Post
  | .exit i => if i = id then Q .normal else Q (.exit i)
  | e => Q e
/-- These slots point to different objects; a slot with itself: it points to some. -/
def Apart (fr : Env) : List (Nat × Nat) → Prop
  | [] => True
  | (p, q) :: r => (match fr p, fr q with
    | .w (.o (.ptr k _)), .w (.o (.ptr k' _)) => k ≠ k' ∨ p = q
    | _, _ => False) ∧ Apart fr r
/-- What a piece of code asks for. -/
def awp (P : Program) : A → Post → Env → Hp → Nat → Nat → Prop
  | .rg ops, Q, fr, H, nx, rm => seqw P (fun fr' H' rm' => Q .normal fr' H' (nx + tot ops) rm') ops nx fr H rm
  | .rgp pairs ops, Q, fr, H, nx, rm => Apart fr pairs ∧ seqw P (fun fr' H' rm' => Q .normal fr' H' (nx + tot ops) rm') ops nx fr H rm
  | .seq a b, Q, fr, H, nx, rm => awp P a (Post.seq (awp P b Q) Q) fr H nx rm
  | .cond x a b, Q, fr, H, nx, rm => match ev fr x with
    | .w (.o (.c (.v (.bool t)))) => (t = true → awp P a Q fr H nx rm) ∧ (t = false → awp P b Q fr H nx rm)
    | _ => False
  | .block id a, Q, fr, H, nx, rm => awp P a (Post.blk id Q) fr H nx rm
  | .loop a, Q, fr, H, nx, rm => ∃ (I : Env → Hp → Nat → Nat → Prop) (m : Env → Hp → Nat → Nat → Nat), I fr H nx rm ∧
      ∀ fr H nx rm, I fr H nx rm → awp P a (Post.seq (fun fr' H' nx' rm' => I fr' H' nx' rm' ∧ m fr' H' nx' rm' < m fr H nx rm) Q) fr H nx rm
  | .exit id, Q, fr, H, nx, rm => Q (.exit id) fr H nx rm
  | .ret, Q, fr, H, nx, rm => Q .ret fr H nx rm
  | .skip, Q, fr, H, nx, rm => Q .normal fr H nx rm
  | .dead, _, _, _, _, _ => False
  | .tke t off T sz a, Q, fr, H, nx, rm => ∃ (k : Nat) (cs : List AC), fr t = .w (.o (.ptr k 0)) ∧ H k = some (.cells cs) ∧ cs[off]? = some .e0 ∧
      awp P a Q fr (hupd nx (some (.tok T sz 0)) (hupd k (some (.cells (cs.set off (.tk nx sz [])))) H)) (nx + 16) rm
  | .frz t a, Q, fr, H, nx, rm => (∃ (k T sz : Nat) (xs : List (List AC)) (ys : List (List FV)), fr t = .w (.o (.ow k)) ∧ H k = some (.arr T sz xs) ∧ fcellss xs = some ys ∧
      (awp P a Q (updo (some t) (.w (.o (.tk k sz ys))) fr) (hupd k (some (.tok T sz xs.length)) H) nx rm ∨ awp P a Q (updo (some t) (.w (.o (.c (.sl sz ys)))) fr) (hupd k (some (.tok T sz xs.length)) H) nx rm)) ∨ awp P a Q fr H nx rm
end Av
end Go.Proofs.Ytdboofnogabefaa
/- Layer Av, part 3: a machine's operation against an operation of the small language: the check, and the soundness of those that make nothing. -/
namespace Go.Proofs.Ytdboofnogabefaa
namespace Av
open Go.RowKit
/-! ### the check -/
def veq : Value → Value → Bool
  | .int k a, .int k' b => decide (k = k') && decide (a = b)
  | .bool a, .bool b => a == b
  | .pointer none, .pointer none => true
  | .slice none 0 0, .slice none 0 0 => true
  | .nilFunc, .nilFunc => true
  | _, _ => false
theorem veq_eq {a b : Value} (h : veq a b = true) : a = b ∧ a.oneCell' = true := by
  unfold veq at h
  split at h <;> simp_all [Value.oneCell']
def veqs : List Value → List Value → Bool
  | [], [] => true
  | a :: r, b :: s => veq a b && veqs r s
  | _, _ => false
theorem veqs_eq : ∀ {l m : List Value}, veqs l m = true → l = m ∧ ∀ x, x ∈ l → x.oneCell' = true
  | [], [], _ => ⟨rfl, fun x h => by cases h⟩
  | a :: r, b :: s, h => by
    simp only [veqs, Bool.and_eq_true] at h
    obtain ⟨e1, o1⟩ := veq_eq h.1
    obtain ⟨e2, o2⟩ := veqs_eq h.2
    exact ⟨by rw [e1, e2], fun x hx => by cases hx with | head => exact o1 | tail _ hx => exact o2 x hx⟩
  | [], _ :: _, h => by simp [veqs] at h
  | _ :: _, [], h => by simp [veqs] at h
def weq : Value → Value → Bool
  | .agg a, .agg b => veqs a.toList b.toList
  | a, b => veq a b
def xeq : Operand → X → Bool
  | .tmp t, .t n => t == n
  | .const v, .k u => weq v u
  | .func f, .fn g => f == g
  | _, _ => false
def xeqs : List Operand → List X → Bool
  | [], [] => true
  | a :: r, b :: s => xeq a b && xeqs r s
  | _, _ => false
def xeqo : Option Operand → Option X → Bool
  | none, none => true
  | some a, some b => xeq a b
  | _, _ => false
theorem RC_ofV (V : Vw) (O : Nat → Option Value) {x : Value} (h : x.oneCell' = true) : RC V O x (ofV x) := by
  unfold ofV
  split
  · exact ⟨none, rfl⟩
  · exact RF.v h
/-- A frame of n slots. -/
def FRn (n : Nat) (V : Vw) (O : Nat → Option Value) (a : Act) (fr : Env) : Prop := a.tmps.size = n ∧ FR V O a fr
section
variable {n : Nat} {V : Vw} {O : Nat → Option Value} {a : Act} {fr : Env}
theorem RW_ofW {v u : Value} (h : weq v u = true) : RW V O v (ofW u) := by
  unfold weq at h
  split at h
  · rename_i a b
    obtain ⟨e, ho⟩ := veqs_eq h
    refine ⟨a.toList, rfl, ?_⟩
    refine ⟨by simp [e], fun i x c h1 h2 => ?_⟩
    rw [← e] at h2
    simp only [List.getElem?_map, h1, Option.map_some, Option.some.injEq] at h2
    subst h2
    have := ho x (List.mem_of_getElem? h1)
    exact ⟨RC_ofV V O this, this⟩
  · rename_i a b hne
    obtain ⟨rfl, ho⟩ := veq_eq h
    have : ofW v = .o (ofV v) := by cases v <;> first | rfl | (simp [Value.oneCell'] at ho)
    rw [this]
    exact ⟨RC_ofV V O ho, fun _ => ho⟩
theorem xeq_eval (hf : FRn n V O a fr) {o : Operand} {x : X} (h : xeq o x = true) : RV V O (a.eval o) (ev fr x) := by
  unfold xeq at h
  split at h
  · rename_i t m
    obtain rfl : t = m := by simpa using h
    exact hf.2.2 t
  · exact RW_ofW h
  · rename_i f g
    obtain rfl : f = g := by simpa using h
    exact ⟨[], [], rfl, ⟨rfl, fun i x c h1 => by simp at h1⟩, ⟨rfl, fun i x c h1 => by simp at h1⟩⟩
  · cases h
theorem FRn.mono {V' : Vw} {O' : Nat → Option Value} (hV : V.le V') (hO : ∀ k v, O k = some v → O' k = some v) (hf : FRn n V O a fr) : FRn n V' O' a fr :=
  ⟨hf.1, hf.2.1, fun t => (hf.2.2 t).mono hV hO⟩
theorem FRn.put (hf : FRn n V O a fr) {d : Option Nat} (hd : ∀ t, d = some t → t < n) {v : Value} {r : AV} (hr : RV V O v r) : FRn n V O (a.put d v) (updo d r fr) := by
  cases d with
  | none => exact hf
  | some d =>
    refine ⟨by simp [Act.put, hf.1], hf.2.1, fun t => ?_⟩
    have hdn := hd d rfl
    show RV V O ((a.tmps.setIfInBounds d v).getD t undef) (upd d r fr t)
    unfold upd
    by_cases ht : t = d
    · subst ht
      rw [if_pos rfl]
      have : (a.tmps.setIfInBounds t v).getD t undef = v := by simp [Array.getD, hf.1, hdn]
      rw [this]; exact hr
    · rw [if_neg ht]
      have : (a.tmps.setIfInBounds d v).getD t undef = a.tmps.getD t undef := by
        simp only [Array.getD_eq_getD_getElem?]
        rw [Array.getElem?_setIfInBounds_ne (by omega)]
      rw [this]; exact hf.2.2 t
theorem RV_junk (V : Vw) (O : Nat → Option Value) (x : Value) : RV V O x J := ⟨trivial, fun h => absurd rfl h⟩
end
/-- An operation yields a value (or nothing), in some world. -/
def Does (P : Program) (o : Oper) (a : Act) (w : World) (N : Value → World → Prop) : Prop :=
  ∀ (K : Act → World → Prop) (Q : Exit → Act → World → Prop), (∀ v w', N v w' → K (a.put o.dst v) w') → o.wp P a w K Q
theorem does_val {P : Program} {o : Oper} {a : Act} {w w' : World} {v : Value} {N : Value → World → Prop} (h : (execOp a.eval o).run P w = .ok (.value v) w') (hN : N v w') : Does P o a w N := by
  intro K Q hK
  unfold Oper.wp
  rw [h]
  exact hK v w' hN
theorem does_skip {P : Program} {o : Oper} {a : Act} {w w' : World} {N : Value → World → Prop} (h : (execOp a.eval o).run P w = .ok .skip w') (hN : N undef w') : Does P o a w N := by
  intro K Q hK
  unfold Oper.wp
  rw [h]
  exact hK undef w' hN
theorem does_call {P : Program} {o : Oper} {a : Act} {w w' : World} {f : Nat} {args : Array Value} {N : Value → World → Prop} (h : (execOp a.eval o).run P w = .ok (.enter f args) w')
    (hc : Calls P f args w' fun e w'' => ∃ v, e = .returned v ∧ N v w'') : Does P o a w N := by
  intro K Q hK
  unfold Oper.wp
  rw [h]
  refine hc.mono ?_
  rintro e w'' ⟨v, rfl, hN⟩
  exact hK v w'' hN
theorem Does.mono {P : Program} {o : Oper} {a : Act} {w : World} {N N' : Value → World → Prop} (h : Does P o a w N) (hN : ∀ v w', N v w' → N' v w') : Does P o a w N' :=
  fun K Q hK => h K Q fun v w' hn => hK v w' (hN v w' hn)
/-! ### what is known of worlds -/
section
variable {bs : Base} {V V' : Vw} {O O' : Nat → Option Value} {own own' : Nat → Option Nat} {dom : Nat → Prop} {w w' : World} {H : Hp} {rm rm' : Nat}
theorem OR.mono {k : Nat} {ob : Ob} (h : OR V O own w rm k ob) (hV : V.le V') (hO : ∀ k v, O k = some v → O' k = some v)
    (hb : ∀ b, own b = some k → own' b = some k ∧ w'.heap[b]? = w.heap[b]?) (hr : rm ≤ rm') : OR V' O' own' w' rm' k ob := by
  cases ob with
  | cells cs =>
    obtain ⟨b, T, l, h1, h2, h3, h4⟩ := h
    obtain ⟨q1, q2⟩ := hb b h2
    exact ⟨b, T, l, hO _ _ h1, q1, q2.trans h3, h4.mono hV hO⟩
  | arr T sz xs =>
    obtain ⟨hs, h⟩ := h
    refine ⟨hs, ?_⟩
    rcases h with ⟨h0, A, h1⟩ | ⟨b, cap, l, m, h1, h2, h3, h4, h5, h6, h7⟩
    · exact .inl ⟨h0, A, hO _ _ h1⟩
    · obtain ⟨q1, q2⟩ := hb b h2
      exact .inr ⟨b, cap, l, m, hO _ _ h1, q1, q2.trans h3, h4, h5, h6, h7.mono hV hO⟩
  | tok T sz n =>
    rcases h with ⟨h0, A, h1⟩ | ⟨b, cap, l, m, h1, h2, h3, h4, h5, h6, h7, h8⟩
    · exact .inl ⟨h0, A, hO _ _ h1⟩
    · obtain ⟨q1, q2⟩ := hb b h2
      exact .inr ⟨b, cap, l, m, hO _ _ h1, q1, q2.trans h3, h4, h5, h6, h7, fun i u hu => hV _ _ _ (h8 i u hu)⟩
  | rd f =>
    obtain ⟨b, T, x, p, h1, h2, h3, h4, h5, h6⟩ := h
    obtain ⟨q1, q2⟩ := hb b h2
    exact ⟨b, T, x, p, hO _ _ h1, q1, q2.trans h3, h4.mono hV, h5, by omega⟩
theorem WR.dommono (h : WR bs V O own dom w H rm) {dom' : Nat → Prop} (hd : ∀ k, dom k → dom' k) : WR bs V O own dom' w H rm :=
  { h with domO := fun k v e => hd _ (h.domO k v e), domH := fun k ob e => hd _ (h.domH k ob e), ownb := fun b k e => ⟨(h.ownb b k e).1, (h.ownb b k e).2.1, hd _ (h.ownb b k e).2.2⟩ }
end
end Av
end Go.Proofs.Ytdboofnogabefaa
/- Layer Av, part 4: the check of an operation; those that make nothing, one by one. -/
namespace Go.Proofs.Ytdboofnogabefaa
namespace Av
open Go.RowKit
def tsize (P : Program) (t : TypeId) : Option Nat := (P.info? t).map (·.size)
def tagg (P : Program) (t : TypeId) : Option Bool :=
  match P.underlying t with
  | some (.struct _) => some true
  | some (.array _ _) => some true
  | some _ => some false
  | none => none
def telem (P : Program) (t : TypeId) : Option TypeId :=
  match P.underlying t with
  | some (.slice e) => some e
  | _ => none
def tkd (P : Program) (t : TypeId) : Option Nat :=
  match P.underlying t with
  | some (.int _) => some 0
  | some .bool => some 1
  | some (.pointer _) => some 2
  | some (.slice _) => some 3
  | _ => none
def tfield (P : Program) (t : TypeId) (i : Nat) : Option (Nat × TypeId) :=
  match P.underlying t with
  | some (.struct fs) => (fs[i]?).map fun f => (f.offset, f.type)
  | _ => none
def tintk (P : Program) (t : TypeId) : Option IntKind :=
  match P.underlying t with
  | some (.int k) => some k
  | _ => none
section
variable {P : Program} {w : World}
theorem run_tsize {t n : Nat} (h : tsize P t = some n) : (sizeOf t).run P w = .ok n w := by
  unfold tsize at h
  obtain ⟨i, hi, rfl⟩ := Option.map_eq_some_iff.1 h
  simp [sizeOf, typeInfo, hi]
theorem run_tagg {t : Nat} {b : Bool} (h : tagg P t = some b) : (isAgg t).run P w = .ok b w := by
  unfold tagg at h
  cases hu : P.underlying t with
  | none => simp [hu] at h
  | some d =>
    rw [hu] at h
    simp only [isAgg, Sem.run_bind, run_underlying hu, Result.andThen_ok]
    cases d <;> simp at h <;> subst h <;> rfl
theorem telem_eq {t e : Nat} (h : telem P t = some e) : P.underlying t = some (.slice e) := by
  unfold telem at h
  split at h
  · rename_i e' he; simp at h; rw [he, h]
  · cases h
end
/-! ### loads -/
section
variable {P : Program} {bs : Base} {V : Vw} {O : Nat → Option Value} {own : Nat → Option Nat} {dom : Nat → Prop} {w : World} {H : Hp} {rm n : Nat} {a : Act} {fr : Env}
theorem RCs.drop {l : List Value} {cs : List AC} (h : RCs V O l cs) (k : Nat) : RCs V O (l.drop k) (cs.drop k) :=
  ⟨by simp [h.1], fun i x c h1 h2 => h.2 (k + i) x c (by simpa using h1) (by simpa using h2)⟩
theorem RCs.take {l : List Value} {cs : List AC} (h : RCs V O l cs) (k : Nat) : RCs V O (l.take k) (cs.take k) :=
  ⟨by simp [h.1], fun i x c h1 h2 => by
    rw [List.getElem?_take] at h1 h2
    split at h1
    · rename_i hk; rw [if_pos hk] at h2; exact h.2 i x c h1 h2
    · cases h1⟩
theorem RCs.append {l m : List Value} {cs ds : List AC} (h : RCs V O l cs) (k : RCs V O m ds) : RCs V O (l ++ m) (cs ++ ds) :=
  ⟨by simp [h.1, k.1], fun i x c h1 h2 => by
    by_cases hi : i < l.length
    · rw [List.getElem?_append_left hi] at h1
      rw [List.getElem?_append_left (by rw [← h.1]; exact hi)] at h2
      exact h.2 i x c h1 h2
    · rw [List.getElem?_append_right (by omega)] at h1
      rw [List.getElem?_append_right (by rw [← h.1]; omega), ← h.1] at h2
      exact k.2 _ x c h1 h2⟩
theorem RCs.nil : RCs V O [] [] := ⟨rfl, fun i x c h1 => by simp at h1⟩
theorem flatten_sized {α : Type} (sz : Nat) : ∀ {xs : List (List α)}, (∀ (j : Nat) x, xs[j]? = some x → x.length = sz) → xs.flatten.length = xs.length * sz
  | [], _ => by simp
  | x :: r, h => by
    have h0 := h 0 x rfl
    have ih := flatten_sized sz (xs := r) (fun j y hy => h (j + 1) y (by simpa using hy))
    simp [ih, h0, Nat.add_mul, Nat.add_comm]
theorem flatten_at {α : Type} (sz : Nat) : ∀ {xs : List (List α)}, (∀ (j : Nat) x, xs[j]? = some x → x.length = sz) → ∀ (i : Nat) x, xs[i]? = some x → (xs.flatten.drop (i * sz)).take sz = x
  | [], _, i, x, hx => by simp at hx
  | y :: r, h, 0, x, hx => by
    simp only [List.getElem?_cons_zero, Option.some.injEq] at hx
    subst hx
    have h0 := h 0 y rfl
    simp [← h0]
  | y :: r, h, i + 1, x, hx => by
    have h0 := h 0 y rfl
    have ih := flatten_at sz (xs := r) (fun j z hz => h (j + 1) z (by simpa using hz)) i x (by simpa using hx)
    rw [show (i + 1) * sz = y.length + i * sz by rw [h0, Nat.add_mul]; omega]
    simp only [List.flatten_cons, List.drop_append, ← List.drop_drop]
    simpa using ih
/-- Where a pointer points to, and what lies there. -/
theorem ldc_sound (hw : WR bs V O own dom w H rm) {x : Value} {p : AV} (hp : RV V O x p) {k : Nat} {cs : List AC} (h : ldc H p k = some cs) :
    ∃ (b off : Nat) (l : List Value), x = .pointer (some ⟨b, off, none⟩) ∧ l.length = k ∧ RCs V O l cs ∧ ∀ (i : Nat) u, l[i]? = some u → w.cell? ⟨b, off + i, none⟩ = some u := by
  unfold ldc at h
  split at h
  · rename_i j off
    split at h
    · rename_i ds hH
      split at h
      · rename_i hlt
        simp only [Option.some.injEq] at h
        subst h
        obtain ⟨b', hO', rfl⟩ := hp.1
        obtain ⟨b, T, l, h1, h2, h3, h4⟩ := hw.obs _ _ hH
        rw [hO'] at h1
        simp only [Option.some.injEq, Value.pointer.injEq, Addr.mk.injEq, and_true] at h1
        subst h1
        refine ⟨b', off, (l.drop off).take k, rfl, ?_, (h4.drop off).take k, fun i u hu => ?_⟩
        · rw [List.length_take, List.length_drop, h4.1]; omega
        · rw [cell_of_row w b' _ _ _ _ h3]
          rw [List.getElem?_take] at hu
          split at hu
          · simpa using hu
          · cases hu
      · cases h
    · cases h
  · rename_i j sz i off
    split at h
    · rename_i T sz' xs hH
      split at h
      · rename_i hlt
        obtain ⟨rfl, hlt⟩ := hlt
        obtain ⟨e, he, rfl⟩ := Option.map_eq_some_iff.1 h
        obtain ⟨b', n', c', hO', rfl⟩ := hp.1
        obtain ⟨hs, h0⟩ := hw.obs _ _ hH
        rcases h0 with ⟨rfl, _⟩ | ⟨b, cap, l, m, h1, h2, h3, h4, h5, h6, h7⟩
        · simp at he
        · rw [hO'] at h1
          simp only [Option.some.injEq, Value.slice.injEq, Addr.mk.injEq, and_true] at h1
          obtain ⟨rfl, rfl, rfl⟩ := h1
          have hfl := flatten_at sz' hs i e he
          have hel := hs i e he
          have hi : i < xs.length := (List.getElem?_eq_some_iff.1 he).1
          have hlen : l.length = xs.length * sz' := by rw [h7.1, flatten_sized sz' hs]
          have hmul : i * sz' + sz' ≤ xs.length * sz' := by
            have : (i + 1) * sz' ≤ xs.length * sz' := Nat.mul_le_mul_right _ hi
            rwa [Nat.add_mul, Nat.one_mul] at this
          have hcs : RCs V O (((l.drop (i * sz')).take sz').drop off |>.take k) ((e.drop off).take k) := by
            rw [← hfl]
            exact (((h7.drop (i * sz')).take sz').drop off).take k
          refine ⟨b', i * sz' + off, _, rfl, ?_, hcs, fun q u hu => ?_⟩
          · simp only [List.length_take, List.length_drop, hlen]; omega
          · rw [cell_of_row w b' _ _ _ _ h3]
            rw [List.getElem?_take] at hu
            split at hu
            · rename_i hq
              rw [List.getElem?_drop, List.getElem?_take] at hu
              split at hu
              · rw [List.getElem?_drop] at hu
                have : i * sz' + (off + q) < l.length := (List.getElem?_eq_some_iff.1 hu).1
                simp only [List.getElem?_toArray]
                rw [List.getElem?_append_left (by omega), ← hu]
                congr 1; omega
              · cases hu
            · cases hu
      · cases h
    · cases h
  · rename_i ds
    split at h
    · rename_i hlt
      simp only [Option.some.injEq] at h
      subst h
      obtain ⟨b, off, rfl, h2⟩ := hp.1
      have hall : ∀ i, i < k → ∃ u, V b (off + i) = some u ∧ ∃ y, ds[i]? = some y ∧ RF V u y := fun i hi => by
        have hy : ds[i]? = some (ds[i]'(by omega)) := List.getElem?_eq_getElem (by omega)
        obtain ⟨u, h3, h4⟩ := h2 i _ hy
        exact ⟨u, h3, _, hy, h4⟩
      refine ⟨b, off, (List.range k).map fun i => (V b (off + i)).getD undef, rfl, by simp, ⟨by simp; omega, fun i x c h3 h4 => ?_⟩, fun i u hu => ?_⟩
      · have hi : i < k := by have := (List.getElem?_eq_some_iff.1 h3).1; simpa using this
        obtain ⟨u, hu, y, hy, hr⟩ := hall i hi
        simp only [List.getElem?_map, List.getElem?_range hi, Option.map_some, hu, Option.getD_some, Option.some.injEq] at h3
        subst h3
        rw [List.getElem?_map, List.getElem?_take, if_pos hi, hy] at h4
        simp only [Option.map_some, Option.some.injEq] at h4
        subst h4
        exact ⟨hr, hr.oneCell⟩
      · have hi : i < k := by have := (List.getElem?_eq_some_iff.1 hu).1; simpa using this
        obtain ⟨u', hu', y, hy, hr⟩ := hall i hi
        simp only [List.getElem?_map, List.getElem?_range hi, Option.map_some, hu', Option.getD_some, Option.some.injEq] at hu
        subst hu
        exact hw.sub _ _ _ hu'
    · cases h
  · cases h
theorem add_lit (b off i : Nat) : (⟨b, off, none⟩ : Addr).add i = ⟨b, off + i, none⟩ := by unfold Addr.add; split <;> simp_all
theorem run_load_sound (hw : WR bs V O own dom w H rm) {x : Value} {p : AV} (hp : RV V O x p) {m : Option Nat} {t : TypeId} (hz : tsize P t = some (m.getD 1)) (hg : tagg P t = some m.isSome) {cs : List AC} (h : ldc H p (m.getD 1) = some cs) :
    ∃ v, (Instr.loadAt t x).run P w = .ok v w ∧ RV V O v (mkw m cs) := by
  obtain ⟨b, off, l, rfl, hl, hr, hc⟩ := ldc_sound hw hp h
  cases m with
  | some k =>
    refine ⟨.agg l.toArray, ?_, l, rfl, hr⟩
    have hz' : tsize P t = some l.length := by rw [hz]; simpa using hl.symm
    simp only [Instr.loadAt, Instr.sureAddr, Sem.run_bind, Sem.run_pure, Result.andThen_ok, loadVar, run_tagg hg, Option.isSome_some, if_true, run_tsize hz']
    rw [run_loadCells_list w ⟨b, off, none⟩ l (fun j v hv => by rw [add_lit]; exact hc j v hv)]
    rfl
  | none =>
    match l, hl, hr, hc with
    | [u], _, hr, hc =>
      match cs, hr with
      | [c], hr =>
        have h0 := hc 0 u rfl
        obtain ⟨r1, r2⟩ := hr.2 0 u c rfl rfl
        refine ⟨u, ?_, r1, fun _ => r2⟩
        simp only [Instr.loadAt, Instr.sureAddr, Sem.run_bind, Sem.run_pure, Result.andThen_ok, loadVar, run_tagg hg, Option.isSome_none, Bool.false_eq_true, if_false, run_load]
        rw [show (⟨b, off, none⟩ : Addr) = ⟨b, off + 0, none⟩ from rfl, h0]
      | [], hr => exact absurd hr.1 (by simp)
      | _ :: _ :: _, hr => exact absurd hr.1 (by simp)
    | [], hl, _, _ => simp at hl
    | _ :: _ :: _, hl, _, _ => simp at hl
end
end Av
end Go.Proofs.Ytdboofnogabefaa
/- Layer Av, part 5: the check of an operation, and the soundness of the operations that make nothing. -/
namespace Go.Proofs.Ytdboofnogabefaa
namespace Av
open Go.RowKit
def partsB (P : Program) (t : TypeId) : List (Nat × Operand) → List (Nat × Nat × X) → Bool
  | [], [] => true
  | (i, x) :: r, (off, n, y) :: s => (match tfield P t i with | some (o, ft) => o == off && tsize P ft == some n | none => false) && xeq x y && partsB P t r s
  | _, _ => false
def zeroB (P : Program) (t : TypeId) (zs : List Value) : Bool :=
  match P.info? t with
  | some i => (match i.zero with | some z => veqs z.cells.toList zs | none => false)
  | none => false
def idxParts : Nat → List (Nat × Operand) → List X → Bool
  | _, [], [] => true
  | k, (i, x) :: r, y :: s => i == k && xeq x y && idxParts (k + 1) r s
  | _, _, _ => false
def chk (P : Program) (o : Oper) : AO → Bool
  | .mv x => match o.op with
    | .move y => xeq y x
    | .assign y => xeq y x
    | _ => false
  | .pick c a b => match o.op with
    | .pick c' a' b' => xeq c' c && xeq a' a && xeq b' b
    | _ => false
  | .alloc zs => match o.op with
    | .alloc t => zeroB P t zs
    | _ => false
  | .box x => match o.op with
    | .box _ y => xeq y x
    | _ => false
  | .build zs ps => match o.op with
    | .build t qs => zeroB P t zs && partsB P t qs.toList ps && (match P.underlying t with | some (.struct fs) => (fs.toList.mapM fun f => (P.info? f.type).map fun i => (f.offset, i.size)).isSome | _ => false)
    | _ => false
  | .bsl T sz xs => match o.op with
    | .buildSlice t len qs => telem P t == some T && tsize P T == some sz && len == xs.length && idxParts 0 qs.toList xs && decide (len * sz ≤ 16777216) && decide (len ≤ 16777216) &&
        (len == 0 || (match P.info? T with | some i => (match i.zero with | some z => z.cells.size == sz && decide (0 < sz) | none => false) | none => false))
    | _ => false
  | .bslf _ T sz xs => match o.op with
    | .buildSlice t len qs => telem P t == some T && tsize P T == some sz && len == xs.length && idxParts 0 qs.toList xs && decide (len * sz ≤ 16777216) && decide (len ≤ 16777216) &&
        (len == 0 || (match P.info? T with | some i => (match i.zero with | some z => z.cells.size == sz && decide (0 < sz) | none => false) | none => false))
    | _ => false
  | .bsl0 T sz => match o.op with
    | .buildSlice t len qs => telem P t == some T && tsize P T == some sz && len == ([] : List X).length && idxParts 0 qs.toList [] && decide (len * sz ≤ 16777216) && decide (len ≤ 16777216) &&
        (len == 0 || (match P.info? T with | some i => (match i.zero with | some z => z.cells.size == sz && decide (0 < sz) | none => false) | none => false))
    | _ => false
  | .load n p => match o.op with
    | .load t y => xeq y p && tsize P t == some (n.getD 1) && tagg P t == some n.isSome
    | _ => false
  | .store n p x => match o.op with
    | .store t y z => xeq y p && xeq z x && tsize P t == some n
    | _ => false
  | .nilc x => match o.op with
    | .nilCheck y => xeq y x
    | _ => false
  | .bin kd op x y => match o.op with
    | .binOp op' t x' y' _ => decide (op' = op) && xeq x' x && xeq y' y && tkd P t == some kd
    | _ => false
  | .eqs neg T n x y => match o.op with
    | .binOp op t x' y' _ => decide (op = if neg then .neq else .eql) && t == T && xeq x' x && xeq y' y
    | _ => false
  | .un op x => match o.op with
    | .unOp op' _ y => decide (op' = op) && xeq y x
    | _ => false
  | .conv k x => match o.op with
    | .convert s d y => xeq y x && tintk P d == some k && (tintk P s).isSome
    | _ => false
  | .mkfn f first cap => match o.op with
    | .makeFunc g a b => decide (g = f) && xeqs a.toList first && xeqs b.toList cap
    | _ => false
  | .mksl T sz bytes zs l c => match o.op with
    | .makeSlice t l' c' => xeq l' l && xeq c' c && telem P t == some T && tsize P T == some sz && (match P.info? T with | some i => i.bytes == bytes | none => false) && zeroB P T zs && decide (zs.length = sz) && decide (0 < sz) && decide (0 < bytes)
    | _ => false
  | .slc sz x lo hi mx => match o.op with
    | .slice t y l h m => xeq y x && xeqo l lo && xeqo h hi && xeqo m mx && (m.isNone || h.isSome) && (match telem P t with | some e => tsize P e == some sz | none => false)
    | _ => false
  | .clip sz x hi mx => match o.op with
    | .slice t y none (some h) (some m) => xeq y x && xeq h hi && xeq m mx && (match telem P t with | some e => tsize P e == some sz | none => false)
    | _ => false
  | .slv sz x hi => match o.op with
    | .slice t y none (some h) none => xeq y x && xeq h hi && (match telem P t with | some e => tsize P e == some sz | none => false)
    | _ => false
  | .fld off p => match o.op with
    | .fieldAddr t y i => xeq y p && (match tfield P t i with | some (o, ft) => o == off && (match tsize P ft with | some k => k != 0 | none => false) | none => false)
    | _ => false
  | .idx sz x i => match o.op with
    | .indexAddr t y j => xeq y x && xeq j i && (match telem P t with | some e => tsize P e == some sz | none => false)
    | _ => false
  | .ext x i => match o.op with
    | .extract y j => xeq y x && j == i
    | _ => false
  | .len x => match o.op with
    | .call c => (match c.callee with | .builtin .len => true | _ => false) && xeqs c.args.toList [x] && (match c.argTypes.toList with | [t] => (telem P t).isSome | _ => false)
    | _ => false
  | .mnmx mn x y => match o.op with
    | .call c => (match c.callee with | .builtin .min => mn | .builtin .max => !mn | _ => false) && xeqs c.args.toList [x, y]
    | _ => false
  | .app T sz bytes zs s x => match o.op with
    | .call c => (match c.callee with | .builtin .append => true | _ => false) && xeqs c.args.toList [s, x] && (match c.argTypes.toList with | [t, u] => t == u && telem P t == some T | _ => false) && tsize P T == some sz &&
        (match P.info? T with | some i => i.bytes == bytes | none => false) && zeroB P T zs && decide (zs.length = sz) && decide (0 < sz) && decide (0 < bytes)
    | _ => false
  | .call f S xs => match o.op with
    | .call c => (match c.callee with | .value (.func g) => g == f | _ => false) && xeqs c.args.toList (xs.map (·.1))
    | _ => false
  | .callv x S xs => match o.op with
    | .call c => (match c.callee with | .value (.tmp t) => xeq (.tmp t) x | _ => false) && xeqs c.args.toList (xs.map (·.1))
    | _ => false
  | .callm f S xs => match o.op with
    | .call c => (match c.callee with | .value (.func g) => g == f | _ => false) && xeqs c.args.toList (xs.map (·.1))
    | _ => false
  | .callb f S xs => match o.op with
    | .call c => (match c.callee with | .value (.func g) => g == f | _ => false) && xeqs c.args.toList (xs.map (·.1))
    | _ => false
  | .callo f S xs => match o.op with
    | .call c => (match c.callee with | .value (.func g) => g == f | _ => false) && xeqs c.args.toList (xs.map (·.1))
    | _ => false
section
variable {P : Program} {bs : Base} {V : Vw} {O : Nat → Option Value} {own : Nat → Option Nat} {dom : Nat → Prop} {w : World} {H : Hp} {rm n : Nat} {a : Act} {fr : Env} {o : Oper}
theorem v_int {x : Value} {k : IntKind} {m : Int} (h : RV V O x (.w (.o (.c (.v (.int k m)))))) : x = .int k m := by cases h.1; rfl
theorem v_bool {x : Value} {b : Bool} (h : RV V O x (B b)) : x = .bool b := by cases h.1; rfl
theorem RV_c {x : Value} {f : FV} (h : RF V x f) : RV V O x (.w (.o (.c f))) := ⟨h, fun _ => h.oneCell⟩
theorem RV_v {x : Value} (h : x.oneCell' = true) : RV V O x (.w (.o (.c (.v x)))) := RV_c (.v h)
/-- What an operation that makes nothing comes to: a value, in the same world. -/
def Gives (P : Program) (o : Oper) (a : Act) (w : World) (V : Vw) (O : Nat → Option Value) (r : AV) : Prop :=
  ∃ v, (execOp a.eval o).run P w = .ok (.value v) w ∧ RV V O v r
theorem s_mv (hf : FRn n V O a fr) {x : X} (hc : chk P o (.mv x) = true) : Gives P o a w V O (ev fr x) := by
  simp only [chk] at hc
  split at hc
  · rename_i y hy
    exact ⟨a.eval y, by simp [execOp, hy], xeq_eval hf hc⟩
  · rename_i y hy
    exact ⟨a.eval y, by simp [execOp, hy], xeq_eval hf hc⟩
  · cases hc
theorem s_pick (hf : FRn n V O a fr) {c x y : X} (hc : chk P o (.pick c x y) = true) {t : Bool} (ht : ev fr c = B t) : Gives P o a w V O (if t then ev fr x else ev fr y) := by
  simp only [chk] at hc
  split at hc
  · rename_i c' x' y' hy
    simp only [Bool.and_eq_true] at hc
    have e1 := xeq_eval hf hc.1.1
    rw [ht] at e1
    have e1' := v_bool e1
    refine ⟨if t then a.eval x' else a.eval y', ?_, ?_⟩
    · simp [execOp, hy, e1', asBool]
    · cases t
      · exact xeq_eval hf hc.2
      · exact xeq_eval hf hc.1.2
  · cases hc
theorem s_load (hw : WR bs V O own dom w H rm) (hf : FRn n V O a fr) {m : Option Nat} {p : X} (hc : chk P o (.load m p) = true) {cs : List AC} (h : ldc H (ev fr p) (m.getD 1) = some cs) : Gives P o a w V O (mkw m cs) := by
  simp only [chk] at hc
  split at hc
  · rename_i t y hy
    simp only [Bool.and_eq_true, beq_iff_eq] at hc
    obtain ⟨v, h1, h2⟩ := run_load_sound hw (xeq_eval hf hc.1.1) hc.1.2 hc.2 h
    exact ⟨v, by simp [execOp, hy, h1], h2⟩
  · cases hc
theorem isPtr_pointer {x : Value} {c : AC} (h : RV V O x (.w (.o c))) (hp : isPtr c = true) : ∃ b off, x = .pointer (some ⟨b, off, none⟩) := by
  cases c <;> simp [isPtr] at hp
  · obtain ⟨b, _, rfl⟩ := h.1; exact ⟨_, _, rfl⟩
  · obtain ⟨b, _, _, _, rfl⟩ := h.1; exact ⟨_, _, rfl⟩
  · obtain ⟨b, off, rfl, _⟩ := h.1; exact ⟨_, _, rfl⟩
theorem s_nilc (hf : FRn n V O a fr) {x : X} (hc : chk P o (.nilc x) = true) {c : AC} (hx : ev fr x = .w (.o c)) (hp : isPtr c = true) : Gives P o a w V O (.w (.o c)) := by
  simp only [chk] at hc
  split at hc
  · rename_i y hy
    have e := xeq_eval hf hc
    rw [hx] at e
    obtain ⟨b, off, hv⟩ := isPtr_pointer e hp
    refine ⟨_, ?_, e⟩
    simp [execOp, hy, hv]
  · cases hc
theorem intOp_sound {op : BinOp} {k : IntKind} {x y : Int} {r : AV} (h : intOp op k x y = some r) (t : TypeId) : ∃ v, (binOp op t (.int k x) (.int k y)).run P w = .ok v w ∧ RV V O v r := by
  cases op <;> simp only [intOp] at h
  case and => cases h
  case or => cases h
  case shl => cases h
  case shr => cases h
  case andNot => cases h
  case quo =>
    split at h
    · cases h
    · rename_i hne
      simp only [Option.some.injEq] at h; subst h
      exact ⟨.int k (k.wrap (x.tdiv y)), by simp [binOp, Op.intDiv, hne], RV_v rfl⟩
  case rem =>
    split at h
    · cases h
    · rename_i hne
      simp only [Option.some.injEq] at h; subst h
      exact ⟨.int k (x.tmod y), by simp [binOp, Op.intDiv, hne], RV_v rfl⟩
  case add => simp only [Option.some.injEq] at h; subst h; exact ⟨.int k (k.wrap (x + y)), by simp [binOp, Op.intArith], RV_v rfl⟩
  case sub => simp only [Option.some.injEq] at h; subst h; exact ⟨.int k (k.wrap (x - y)), by simp [binOp, Op.intArith], RV_v rfl⟩
  case mul => simp only [Option.some.injEq] at h; subst h; exact ⟨.int k (k.wrap (x * y)), by simp [binOp, Op.intArith], RV_v rfl⟩
  case xor => simp only [Option.some.injEq] at h; subst h; exact ⟨.int k (k.wrap (BitVec.ofInt k.bits x ^^^ BitVec.ofInt k.bits y).toNat), by simp [binOp, Op.intBits], RV_v rfl⟩
  case eql => simp only [Option.some.injEq] at h; subst h; exact ⟨.bool (x == y), by simp [binOp, Op.intCmp], RV_v rfl⟩
  case neq => simp only [Option.some.injEq] at h; subst h; exact ⟨.bool (x != y), by simp [binOp, Op.intCmp], RV_v rfl⟩
  case lss => simp only [Option.some.injEq] at h; subst h; exact ⟨.bool (decide (x < y)), by simp [binOp, Op.intCmp], RV_v rfl⟩
  case leq => simp only [Option.some.injEq] at h; subst h; exact ⟨.bool (decide (x ≤ y)), by simp [binOp, Op.intCmp], RV_v rfl⟩
  case gtr => simp only [Option.some.injEq] at h; subst h; exact ⟨.bool (decide (x > y)), by simp [binOp, Op.intCmp], RV_v rfl⟩
  case geq => simp only [Option.some.injEq] at h; subst h; exact ⟨.bool (decide (x ≥ y)), by simp [binOp, Op.intCmp], RV_v rfl⟩
theorem tkd_bool {t : Nat} (h : tkd P t = some 1) : P.underlying t = some .bool := by unfold tkd at h; split at h <;> simp_all
theorem tkd_ptr {t : Nat} (h : tkd P t = some 2) : ∃ e, P.underlying t = some (.pointer e) := by unfold tkd at h; split at h <;> simp_all
theorem tkd_slice {t : Nat} (h : tkd P t = some 3) : ∃ e, P.underlying t = some (.slice e) := by unfold tkd at h; split at h <;> simp_all
theorem weq_nilslice {v : Value} (h : weq v (.slice none 0 0) = true) : v = .slice none 0 0 := by
  unfold weq at h
  split at h
  · rename_i hh; cases hh
  · exact (veq_eq h).1
theorem eqGuard_int {op : BinOp} {t : TypeId} {x y : Operand} {k k' : IntKind} {m m' : Int} : (eqGuard op t x y (.int k m) (.int k' m')).run P w = .ok () w := by
  cases op <;> simp [eqGuard]
theorem eqGuard_bool {op : BinOp} {t : TypeId} {x y : Operand} {m m' : Bool} : (eqGuard op t x y (.bool m) (.bool m')).run P w = .ok () w := by
  cases op <;> simp [eqGuard]
theorem eqGuard_ptr {op : BinOp} {t : TypeId} {x y : Operand} {p : Option Addr} {v : Value} : (eqGuard op t x y (.pointer p) v).run P w = .ok () w := by
  cases op <;> simp [eqGuard]
theorem eqGuard_slice {op : BinOp} {t : TypeId} {x y : Operand} {p : Option Addr} {l c : Nat} {v : Value} : (eqGuard op t x y (.slice p l c) v).run P w = .ok () w := by
  cases op <;> simp [eqGuard]
theorem RC_slice_form {x : Value} {sz : Nat} {xs : List (List FV)} (h : RF V x (.sl sz xs)) : ∃ A len cap, x = .slice A len cap ∧ xs.length = len ∧ len ≤ cap ∧ cap ≤ 9223372036854775807 ∧ (A = none → xs = []) := by
  cases h with
  | sl u hl hc hm hA hs hV hr =>
    refine ⟨_, _, _, rfl, hl, hc, hm, fun hn => ?_⟩
    by_cases h0 : 0 < xs.length
    · have := hA (by omega); rw [hn] at this; cases this
    · exact List.eq_nil_of_length_eq_zero (by omega)
theorem run_eq_nil {t e : Nat} (hu : P.underlying t = some (.slice e)) (A : Option Addr) (l c : Nat) : (binOp .eql t (.slice A l c) (.slice none 0 0)).run P w = .ok (.bool A.isNone) w :=
  Lib.run_eql_slice_nil w t e A l c 0 0 hu
theorem run_neq_nil {t e : Nat} (hu : P.underlying t = some (.slice e)) (A : Option Addr) (l c : Nat) : (binOp .neq t (.slice A l c) (.slice none 0 0)).run P w = .ok (.bool (!A.isNone)) w :=
  run_neq_slice_nil_any w t e A l c 0 0 hu
end
end Av
end Go.Proofs.Ytdboofnogabefaa
/- Layer Av, part 6: the soundness of the operations that make nothing, continued. -/
namespace Go.Proofs.Ytdboofnogabefaa
namespace Av
open Go.RowKit
section
variable {P : Program} {bs : Base} {V : Vw} {O : Nat → Option Value} {own : Nat → Option Nat} {dom : Nat → Prop} {w : World} {H : Hp} {rm n : Nat} {a : Act} {fr : Env} {o : Oper}
/-- What an outcome that makes nothing says: the value's description, or any that the contract lets. -/
def Gives' (P : Program) (o : Oper) (a : Act) (w : World) (V : Vw) (O : Nat → Option Value) (H : Hp) (out : Out) : Prop :=
  match out with
  | .one r H' => H' = H ∧ Gives P o a w V O r
  | .any pre _ R => pre → ∃ r, R r ∧ Gives P o a w V O r
theorem e0_form {x : Value} (h : RV V O x (.w (.o .e0))) : ∃ A, x = .slice A 0 0 := h.1
theorem v_scal {x y : Value} (h : RV V O x (.w (.o (.c (.v y))))) : x = y := by
  have h1 : RF V x (.v y) := h.1
  generalize hf : FV.v y = f at h1
  cases h1 with
  | v h => cases hf; rfl
  | sl => cases hf
theorem s_bin (hw : WR bs V O own dom w H rm) (hf : FRn n V O a fr) {kd : Nat} {op : BinOp} {x y : X} (hc : chk P o (.bin kd op x y) = true) {out : Out} (h : binA kd op (ev fr x) (ev fr y) y H = some out) : Gives' P o a w V O H out := by
  simp only [chk] at hc
  split at hc
  · rename_i op' t x' y' yt hop
    simp only [Bool.and_eq_true, beq_iff_eq, decide_eq_true_eq] at hc
    obtain ⟨⟨⟨rfl, hx⟩, hy⟩, hk⟩ := hc
    have ex := xeq_eval hf hx
    have ey := xeq_eval hf hy
    have hrun : ∀ v, (eqGuard op' t x' y' (a.eval x') (a.eval y')).run P w = .ok () w → (binOp op' t (a.eval x') (a.eval y')).run P w = .ok v w → (execOp a.eval o).run P w = .ok (.value v) w := by
      intro v h1 h2
      simp [execOp, hop, h1, h2]
    unfold binA at h
    split at h
    · rename_i k m k' m' e1 e2
      rw [e1] at ex; rw [e2] at ey
      split at h
      · rename_i hkk
        subst hkk
        obtain ⟨r, hr, rfl⟩ := Option.map_eq_some_iff.1 h
        obtain ⟨v, h1, h2⟩ := intOp_sound (P := P) (w := w) (V := V) (O := O) hr t
        refine ⟨rfl, v, hrun v ?_ ?_, h2⟩
        · rw [v_int ex, v_int ey]; exact eqGuard_int
        · rw [v_int ex, v_int ey]; exact h1
      · cases h
    · rename_i m m' e1 e2
      rw [e1] at ex; rw [e2] at ey
      have hu := tkd_bool hk
      have xe := v_bool ex
      have ye := v_bool ey
      split at h
      · simp only [Option.some.injEq] at h; subst h
        refine ⟨rfl, _, hrun (.bool (m == m')) ?_ ?_, RV_v rfl⟩
        · rw [xe, ye]; exact eqGuard_bool
        · rw [xe, ye]
          simp only [binOp, Sem.run_bind, Op.equal, Op.maxDepth]
          rw [run_equalIn_bool' w 9999 t m m' hu]; rfl
      · simp only [Option.some.injEq] at h; subst h
        refine ⟨rfl, _, hrun (.bool (!(m == m'))) ?_ ?_, RV_v rfl⟩
        · rw [xe, ye]; exact eqGuard_bool
        · rw [xe, ye]
          simp only [binOp, Sem.run_bind, Op.equal, Op.maxDepth]
          rw [run_equalIn_bool' w 9999 t m m' hu]; rfl
      · cases h
    · rename_i p e1 e2
      rw [e1] at ex; rw [e2] at ey
      obtain ⟨e, hu⟩ := tkd_ptr hk
      split at h
      · rename_i hp
        obtain ⟨b, off, hv⟩ := isPtr_pointer ex hp
        have hv2 : a.eval y' = .pointer none := v_scal ey
        have hu' : P.underlying t = some (.pointer (P.pointee t)) := by simp [Program.pointee, hu]
        split at h
        · simp only [Option.some.injEq] at h; subst h
          refine ⟨rfl, _, hrun (.bool false) ?_ ?_, RV_v rfl⟩
          · rw [hv]; exact eqGuard_ptr
          · rw [hv, hv2]
            exact run_eql_pointer_nil w t _ hu'
        · simp only [Option.some.injEq] at h; subst h
          refine ⟨rfl, _, hrun (.bool true) ?_ ?_, RV_v rfl⟩
          · rw [hv]; exact eqGuard_ptr
          · rw [hv, hv2]
            exact run_neq_pointer_nil w t _ hu'
        · cases h
      · split at h
        · rename_i hp
          have hpe : p = .c (.v (.pointer none)) := by
            unfold isNil at hp
            split at hp
            · rfl
            · cases hp
          subst hpe
          have hv : a.eval x' = .pointer none := v_scal ex
          have hv2 : a.eval y' = .pointer none := v_scal ey
          have hu' : P.underlying t = some (.pointer (P.pointee t)) := by simp [Program.pointee, hu]
          split at h
          · simp only [Option.some.injEq] at h; subst h
            refine ⟨rfl, _, hrun (.bool true) ?_ ?_, RV_v rfl⟩
            · rw [hv]; exact eqGuard_ptr
            · rw [hv, hv2]
              exact run_eql_pointer_nil w t _ hu'
          · simp only [Option.some.injEq] at h; subst h
            refine ⟨rfl, _, hrun (.bool false) ?_ ?_, RV_v rfl⟩
            · rw [hv]; exact eqGuard_ptr
            · rw [hv, hv2]
              exact run_neq_pointer_nil w t _ hu'
          · cases h
        · cases h
    · rename_i sz xs e1
      rw [e1] at ex
      obtain ⟨e, hu⟩ := tkd_slice hk
      obtain ⟨A, l, c, hv, -, -, -, hA⟩ := RC_slice_form ex.1
      split at h
      · simp only [Option.some.injEq] at h; subst h
        have hy2 : a.eval y' = .slice none 0 0 := by
          unfold xeq at hy
          split at hy
          · rename_i hh; cases hh
          · rename_i v u hh; cases hh; simpa [Act.eval] using weq_nilslice hy
          · rename_i hh; cases hh
          · cases hy
        intro _
        refine ⟨B A.isNone, ⟨A.isNone, rfl, fun ht => ?_⟩, _, hrun (.bool A.isNone) ?_ ?_, RV_v rfl⟩
        · cases A with
          | none => exact hA rfl
          | some _ => cases ht
        · rw [hv]; exact eqGuard_slice
        · rw [hv, hy2]; exact run_eq_nil hu A l c
      · simp only [Option.some.injEq] at h; subst h
        have hy2 : a.eval y' = .slice none 0 0 := by
          unfold xeq at hy
          split at hy
          · rename_i hh; cases hh
          · rename_i v u hh; cases hh; simpa [Act.eval] using weq_nilslice hy
          · rename_i hh; cases hh
          · cases hy
        intro _
        refine ⟨B (!A.isNone), ⟨!A.isNone, rfl, fun ht => ?_⟩, _, hrun (.bool (!A.isNone)) ?_ ?_, RV_v rfl⟩
        · cases A with
          | none => exact hA rfl
          | some _ => cases ht
        · rw [hv]; exact eqGuard_slice
        · rw [hv, hy2]; exact run_neq_nil hu A l c
      · cases h
    · rename_i e1
      rw [e1] at ex
      obtain ⟨e, hu⟩ := tkd_slice hk
      obtain ⟨A, hv⟩ := e0_form ex
      split at h
      · simp only [Option.some.injEq] at h; subst h
        have hy2 : a.eval y' = .slice none 0 0 := by
          unfold xeq at hy
          split at hy
          · rename_i hh; cases hh
          · rename_i v u hh; cases hh; simpa [Act.eval] using weq_nilslice hy
          · rename_i hh; cases hh
          · cases hy
        intro _
        refine ⟨B A.isNone, ⟨A.isNone, rfl⟩, _, hrun (.bool A.isNone) ?_ ?_, RV_v rfl⟩
        · rw [hv]; exact eqGuard_slice
        · rw [hv, hy2]; exact run_eq_nil hu A 0 0
      · simp only [Option.some.injEq] at h; subst h
        have hy2 : a.eval y' = .slice none 0 0 := by
          unfold xeq at hy
          split at hy
          · rename_i hh; cases hh
          · rename_i v u hh; cases hh; simpa [Act.eval] using weq_nilslice hy
          · rename_i hh; cases hh
          · cases hy
        intro _
        refine ⟨B (!A.isNone), ⟨!A.isNone, rfl⟩, _, hrun (.bool (!A.isNone)) ?_ ?_, RV_v rfl⟩
        · rw [hv]; exact eqGuard_slice
        · rw [hv, hy2]; exact run_neq_nil hu A 0 0
      · cases h
    · rename_i kk e1
      split at h
      · rename_i T s xs hk2
        rw [e1] at ex
        obtain ⟨e, hu⟩ := tkd_slice hk
        have hOv : O kk = some (a.eval x') := ex.1.1
        obtain ⟨A, l, c, hv, hA⟩ : ∃ A l c, a.eval x' = .slice A l c ∧ (A = none → xs = []) := by
          obtain ⟨_, hob⟩ := hw.obs _ _ hk2
          rcases hob with ⟨rfl, A, h3⟩ | ⟨b, cap, l, m, g1, _⟩
          · rw [h3] at hOv; exact ⟨A, 0, 0, (Option.some.inj hOv).symm, fun _ => rfl⟩
          · rw [g1] at hOv; exact ⟨_, _, _, (Option.some.inj hOv).symm, fun h => by cases h⟩
        split at h
        · simp only [Option.some.injEq] at h; subst h
          have hy2 : a.eval y' = .slice none 0 0 := by
            unfold xeq at hy
            split at hy
            · rename_i hh; cases hh
            · rename_i v u hh; cases hh; simpa [Act.eval] using weq_nilslice hy
            · rename_i hh; cases hh
            · cases hy
          intro _
          refine ⟨B A.isNone, ⟨A.isNone, rfl, fun ht => ?_⟩, _, hrun (.bool A.isNone) ?_ ?_, RV_v rfl⟩
          · cases A with
            | none => exact hA rfl
            | some _ => cases ht
          · rw [hv]; exact eqGuard_slice
          · rw [hv, hy2]; exact run_eq_nil hu A l c
        · simp only [Option.some.injEq] at h; subst h
          have hy2 : a.eval y' = .slice none 0 0 := by
            unfold xeq at hy
            split at hy
            · rename_i hh; cases hh
            · rename_i v u hh; cases hh; simpa [Act.eval] using weq_nilslice hy
            · rename_i hh; cases hh
            · cases hy
          intro _
          refine ⟨B (!A.isNone), ⟨!A.isNone, rfl, fun ht => ?_⟩, _, hrun (.bool (!A.isNone)) ?_ ?_, RV_v rfl⟩
          · cases A with
            | none => exact hA rfl
            | some _ => cases ht
          · rw [hv]; exact eqGuard_slice
          · rw [hv, hy2]; exact run_neq_nil hu A l c
        · cases h
      · cases h
    · cases h
  · cases hc
theorem intsOf_sound {l : List Value} : ∀ {cs : List AC} {as : List Int}, RCs V O l cs → intsOf cs = some as → l = as.map fun x => Value.int .i64 x := by
  induction l with
  | nil =>
    intro cs as h hi
    have : cs = [] := List.eq_nil_of_length_eq_zero (by rw [← h.1]; rfl)
    subst this
    simp [intsOf] at hi; subst hi; rfl
  | cons x l ih =>
    intro cs as h hi
    cases cs with
    | nil => exact absurd h.1 (by simp)
    | cons c cs =>
      unfold intsOf at hi
      split at hi
      · rename_i hh; cases hh
      · rename_i m r hh
        simp only [List.cons.injEq] at hh
        obtain ⟨rfl, rfl⟩ := hh
        obtain ⟨as', h1, rfl⟩ := Option.map_eq_some_iff.1 hi
        have h0 := (h.2 0 x _ rfl rfl).1
        have : x = .int .i64 m := by cases h0; rfl
        rw [List.map_cons, ← this]
        have ht : RCs V O l cs := ⟨by have := h.1; simpa using this, fun i y d h1 h2 => h.2 (i + 1) y d (by simpa using h1) (by simpa using h2)⟩
        rw [← ih ht h1]
      · cases hi
theorem s_eqs (hf : FRn n V O a fr) {neg : Bool} {T k : Nat} {x y : X} (hc : chk P o (.eqs neg T k x y) = true) {cs ds : List AC} (hx : ev fr x = .w (.g cs)) (hy : ev fr y = .w (.g ds)) {as bs : List Int}
    (h1 : intsOf cs = some as) (h2 : intsOf ds = some bs) (l1 : as.length = k) (l2 : bs.length = k) (he : EqInts P T k) : Gives P o a w V O (B (if neg then !(as == bs) else as == bs)) := by
  simp only [chk] at hc
  split at hc
  · rename_i op t x' y' yt hop
    simp only [Bool.and_eq_true, beq_iff_eq, decide_eq_true_eq] at hc
    obtain ⟨⟨⟨hop', rfl⟩, hx'⟩, hy'⟩ := hc
    have ex := xeq_eval hf hx'
    have ey := xeq_eval hf hy'
    rw [hx] at ex; rw [hy] at ey
    obtain ⟨l, ex1, ex2⟩ := ex
    obtain ⟨m, ey1, ey2⟩ := ey
    rw [intsOf_sound ex2 h1] at ex1
    rw [intsOf_sound ey2 h2] at ey1
    have hr := he.2 as bs l1 l2 w
    have hg := run_eqGuard_agg (P := P) w op t x' y' (as.map fun x => Value.int .i64 x).toArray (bs.map fun x => Value.int .i64 x).toArray he.1
    cases neg with
    | false =>
      simp only [Bool.false_eq_true, if_false] at hop'
      subst hop'
      refine ⟨.bool (as == bs), ?_, RV_v rfl⟩
      simp only [execOp, hop, ex1, ey1, Sem.run_bind, hg, Result.andThen_ok, run_eql_struct, hr, Sem.run_pure]
    | true =>
      simp only [if_true] at hop'
      subst hop'
      refine ⟨.bool (!(as == bs)), ?_, RV_v rfl⟩
      simp only [execOp, hop, ex1, ey1, Sem.run_bind, hg, Result.andThen_ok, run_neq_struct, hr, Sem.run_pure]
  · cases hc
theorem s_un (hf : FRn n V O a fr) {op : UnOp} {x : X} (hc : chk P o (.un op x) = true) :
    (∀ t, op = .not → ev fr x = B t → Gives P o a w V O (B (!t))) ∧ (∀ k m, op = .neg → ev fr x = .w (.o (.c (.v (.int k m)))) → Gives P o a w V O (.w (.o (.c (.v (.int k (k.wrap (0 - m)))))))) := by
  simp only [chk] at hc
  split at hc
  · rename_i op' t y hop
    simp only [Bool.and_eq_true, decide_eq_true_eq] at hc
    obtain ⟨rfl, hx⟩ := hc
    have ex := xeq_eval hf hx
    refine ⟨fun t h1 h2 => ?_, fun k m h1 h2 => ?_⟩
    · subst h1; rw [h2] at ex
      exact ⟨.bool (!t), by simp [execOp, hop, v_bool ex, Op.unary], RV_v rfl⟩
    · subst h1; rw [h2] at ex
      exact ⟨.int k (k.wrap (0 - m)), by simp [execOp, hop, v_int ex, Op.unary, Op.intArith], RV_v rfl⟩
  · cases hc
theorem s_conv (hf : FRn n V O a fr) {k : IntKind} {x : X} (hc : chk P o (.conv k x) = true) {k' : IntKind} {m : Int} (hx : ev fr x = .w (.o (.c (.v (.int k' m))))) : Gives P o a w V O (.w (.o (.c (.v (.int k (k.wrap m)))))) := by
  simp only [chk] at hc
  split at hc
  · rename_i s d y hop
    simp only [Bool.and_eq_true, beq_iff_eq] at hc
    obtain ⟨⟨hx', hd⟩, hs⟩ := hc
    have ex := xeq_eval hf hx'
    rw [hx] at ex
    have hd' : P.underlying d = some (.int k) := by unfold tintk at hd; split at hd <;> simp_all
    obtain ⟨ks, hs'⟩ : ∃ ks, P.underlying s = some (.int ks) := by unfold tintk at hs; split at hs <;> simp_all
    refine ⟨.int k (k.wrap m), ?_, RV_v rfl⟩
    simp [execOp, hop, v_int ex, convert, run_underlying hd', run_underlying hs', Conv.intToInt]
  · cases hc
theorem xeqs_aws (hf : FRn n V O a fr) : ∀ {l : List Operand} {xs : List X} {as : List AW}, xeqs l xs = true → awsOf fr xs = some as → RWs V O (l.map a.eval) as
  | [], [], as, _, h => by simp [awsOf] at h; subst h; exact ⟨rfl, fun i x c h1 => by simp at h1⟩
  | p :: l, x :: xs, as, h, hs => by
    simp only [xeqs, Bool.and_eq_true] at h
    unfold awsOf at hs
    split at hs
    · rename_i a1 rest h1 h2
      simp only [Option.some.injEq] at hs; subst hs
      have e := xeq_eval hf h.1
      have ih := xeqs_aws hf h.2 h2
      have ha : ev fr x = .w a1 := by
        cases hx : ev fr x <;> simp [hx, awOf] at h1; subst h1; rfl
      rw [ha] at e
      refine ⟨by simp [ih.1], fun i u c h3 h4 => ?_⟩
      cases i with
      | zero => simp at h3 h4; subst h3; subst h4; exact e
      | succ i => exact ih.2 i u c (by simpa using h3) (by simpa using h4)
    · cases hs
  | [], _ :: _, _, h, _ => by simp [xeqs] at h
  | _ :: _, [], _, h, _ => by simp [xeqs] at h
theorem s_mkfn (hf : FRn n V O a fr) {f : Fn} {first cap : List X} (hc : chk P o (.mkfn f first cap) = true) {as bs : List AW} (h1 : awsOf fr first = some as) (h2 : awsOf fr cap = some bs) : Gives P o a w V O (.fn f as bs) := by
  simp only [chk] at hc
  split at hc
  · rename_i g p q hop
    simp only [Bool.and_eq_true, decide_eq_true_eq] at hc
    obtain ⟨⟨rfl, h3⟩, h4⟩ := hc
    refine ⟨.func g (p.map a.eval) (q.map a.eval), by simp [execOp, hop, Instr.makeFunc], p.toList.map a.eval, q.toList.map a.eval, ?_, xeqs_aws hf h3 h1, xeqs_aws hf h4 h2⟩
    congr 1 <;> (apply Array.ext'; simp)
  · cases hc
theorem s_fld (hw : WR bs V O own dom w H rm) (hf : FRn n V O a fr) {off : Nat} {p : X} (hc : chk P o (.fld off p) = true) {out : Out} (h : fldA off (ev fr p) H = some out) : Gives' P o a w V O H out := by
  simp only [chk] at hc
  split at hc
  · rename_i t y i hop
    simp only [Bool.and_eq_true] at hc
    obtain ⟨hx, hfl⟩ := hc
    have ex := xeq_eval hf hx
    split at hfl
    · rename_i o' ft hft
      simp only [Bool.and_eq_true, beq_iff_eq] at hfl
      obtain ⟨rfl, hsz⟩ := hfl
      have hst : ∃ fs f, P.underlying t = some (.struct fs) ∧ fs[i]? = some f ∧ f.offset = o' ∧ f.type = ft := by
        unfold tfield at hft
        split at hft
        · rename_i fs hu
          obtain ⟨f, h1, h2⟩ := Option.map_eq_some_iff.1 hft
          simp only [Prod.mk.injEq] at h2
          exact ⟨fs, f, hu, h1, h2.1, h2.2⟩
        · cases hft
      obtain ⟨fs, f, hu, hf1, rfl, rfl⟩ := hst
      split at hsz
      · rename_i k hk
        have hk0 : k ≠ 0 := by simpa using hsz
        have hrun : ∀ b off, a.eval y = .pointer (some ⟨b, off, none⟩) → (execOp a.eval o).run P w = .ok (.value (.pointer (some ⟨b, off + f.offset, none⟩))) w := by
          intro b off hv
          simp only [execOp, hop, Instr.fieldAt, Sem.run_bind, run_underlying hu, Result.andThen_ok, hf1, hv, Instr.sureAddr, Sem.run_pure, fieldPlace, run_tsize hk, if_neg hk0, add_lit]
        unfold fldA at h
        split at h
        · rename_i j oo e1
          rw [e1] at ex
          simp only [Option.some.injEq] at h; subst h
          obtain ⟨b, h1, h2⟩ := ex.1
          exact ⟨rfl, _, hrun b oo h2, ⟨b, h1, rfl⟩, fun _ => rfl⟩
        · rename_i j sz ii oo e1
          rw [e1] at ex
          simp only [Option.some.injEq] at h; subst h
          obtain ⟨b, l, c, h1, h2⟩ := ex.1
          exact ⟨rfl, _, hrun b _ h2, ⟨b, l, c, h1, by rw [Nat.add_assoc]⟩, fun _ => rfl⟩
        · rename_i cs e1
          rw [e1] at ex
          split at h
          · rename_i hle
            simp only [Option.some.injEq] at h; subst h
            obtain ⟨b, off, h1, h2⟩ := ex.1
            refine ⟨rfl, _, hrun b off h1, ⟨b, off + f.offset, rfl, fun q z hz => ?_⟩, fun _ => rfl⟩
            obtain ⟨u, h3, h4⟩ := h2 (f.offset + q) z (by simpa using hz)
            exact ⟨u, by rw [← h3]; congr 1; omega, h4⟩
          · cases h
        · cases h
      · cases hsz
    · cases hfl
  · cases hc
theorem RF_sl_at {x : Value} {sz : Nat} {xs : List (List FV)} (h : RF V x (.sl sz xs)) {i : Nat} {e : List FV} (he : xs[i]? = some e) :
    ∃ b off len cap, x = .slice (some ⟨b, off, none⟩) len cap ∧ i < len ∧ ∀ (q : Nat) z, e[q]? = some z → ∃ u, V b (off + i * sz + q) = some u ∧ RF V u z := by
  cases h with
  | sl u hl hc hm hA hs hV hr =>
    have hi : i < xs.length := (List.getElem?_eq_some_iff.1 he).1
    exact ⟨_, _, _, _, by rw [hA (by omega)], by omega, fun q z hz => ⟨_, hV i e q z he hz, hr i e q z he hz⟩⟩
theorem s_idx (hw : WR bs V O own dom w H rm) (hf : FRn n V O a fr) {sz : Nat} {x i : X} (hc : chk P o (.idx sz x i) = true) {out : Out} (h : idxA sz (ev fr x) (ev fr i) H = some out) : Gives' P o a w V O H out := by
  simp only [chk] at hc
  split at hc
  · rename_i t y j hop
    simp only [Bool.and_eq_true] at hc
    obtain ⟨⟨hx, hj⟩, hel⟩ := hc
    have ex := xeq_eval hf hx
    have ej := xeq_eval hf hj
    split at hel
    · rename_i e he
      have hsz : tsize P e = some sz := by simpa using hel
      have hu := telem_eq he
      have hrun : ∀ b off len cap k (m : Int), a.eval y = .slice (some ⟨b, off, none⟩) len cap → a.eval j = .int k m → 0 ≤ m → m.toNat < len →
          (execOp a.eval o).run P w = .ok (.value (.pointer (some ⟨b, off + m.toNat * sz, none⟩))) w := by
        intro b off len cap k m h1 h2 h3 h4
        have h5 : m < (len : Int) := by omega
        simp only [execOp, hop, Instr.indexAt, asIntOf, h1, h2, Sem.run_bind, Sem.run_pure, Result.andThen_ok, run_underlying hu, Sem.run_ite, h3, h5, and_self, if_true, run_tsize hsz, add_lit]
      unfold idxA at h
      split at h
      · rename_i s xs k m e1 e2
        rw [e1] at ex; rw [e2] at ej
        split at h
        · rename_i hc1
          obtain ⟨rfl, h0⟩ := hc1
          obtain ⟨el, hel', rfl⟩ := Option.map_eq_some_iff.1 h
          obtain ⟨b, off, len, cap, hv, hlt, hq⟩ := RF_sl_at ex.1 hel'
          exact ⟨rfl, _, hrun b off len cap k m hv (v_int ej) h0 hlt, ⟨b, off + m.toNat * s, rfl, hq⟩, fun _ => rfl⟩
        · cases h
      · rename_i q s xs k m e1 e2
        rw [e1] at ex; rw [e2] at ej
        split at h
        · rename_i hc1
          obtain ⟨rfl, h0⟩ := hc1
          obtain ⟨el, hel', rfl⟩ := Option.map_eq_some_iff.1 h
          obtain ⟨b, off, len, cap, hv, hlt, hq⟩ := RF_sl_at ex.1.2 hel'
          exact ⟨rfl, _, hrun b off len cap k m hv (v_int ej) h0 hlt, ⟨b, off + m.toNat * s, rfl, hq⟩, fun _ => rfl⟩
        · cases h
      · rename_i q k m e1 e2
        rw [e1] at ex; rw [e2] at ej
        split at h
        · rename_i T s xs hH
          split at h
          · rename_i hc1
            obtain ⟨rfl, h0⟩ := hc1
            obtain ⟨el, hel', rfl⟩ := Option.map_eq_some_iff.1 h
            obtain ⟨hs, hob⟩ := hw.obs _ _ hH
            have hi : m.toNat < xs.length := (List.getElem?_eq_some_iff.1 hel').1
            rcases hob with ⟨rfl, _⟩ | ⟨b, cap, l, mm, h1, h2, h3, h4, h5, h6, h7⟩
            · simp at hi
            · have hv := ex.1.1
              rw [h1] at hv
              simp only [Option.some.injEq] at hv
              have hr := hrun b 0 xs.length cap k m hv.symm (v_int ej) h0 hi
              rw [Nat.zero_add] at hr
              exact ⟨rfl, _, hr, ⟨b, xs.length, cap, h1, rfl⟩, fun _ => rfl⟩
          · cases h
        · cases h
      · cases h
    · cases hel
  · cases hc
theorem s_ext (hf : FRn n V O a fr) {x : X} {i : Nat} (hc : chk P o (.ext x i) = true) {xs : List AW} (hx : ev fr x = .tup xs) {c : AW} (hi : xs[i]? = some c) : Gives P o a w V O (.w c) := by
  simp only [chk] at hc
  split at hc
  · rename_i y j hop
    simp only [Bool.and_eq_true, beq_iff_eq] at hc
    obtain ⟨hx', rfl⟩ := hc
    have ex := xeq_eval hf hx'
    rw [hx] at ex
    obtain ⟨l, h1, h2⟩ := ex
    have hlt : j < l.length := by rw [h2.1]; exact (List.getElem?_eq_some_iff.1 hi).1
    have hl : l[j]? = some l[j] := List.getElem?_eq_getElem hlt
    exact ⟨l[j], by simp [execOp, hop, h1, Instr.extract, hl], h2.2 j _ _ hl hi⟩
  · cases hc
theorem lenA_sound (hw : WR bs V O own dom w H rm) {x : Value} {v : AV} (hx : RV V O x v) {k : Nat} (h : lenA H v = some k) : ∃ A c, x = .slice A k c ∧ k ≤ c ∧ c ≤ 9223372036854775807 := by
  unfold lenA at h
  split at h
  · simp only [Option.some.injEq] at h; subst h
    obtain ⟨A, l, c, hv, hl, hc, hm, -⟩ := RC_slice_form hx.1
    subst hl; exact ⟨A, c, hv, hc, hm⟩
  · simp only [Option.some.injEq] at h; subst h
    obtain ⟨A, l, c, hv, hl, hc, hm, -⟩ := RC_slice_form hx.1.2
    subst hl; exact ⟨A, c, hv, hc, hm⟩
  · simp only [Option.some.injEq] at h; subst h
    obtain ⟨A, hv⟩ := e0_form hx
    exact ⟨A, 0, hv, Nat.le_refl _, by omega⟩
  · split at h
    · rename_i T s xs hH
      simp only [Option.some.injEq] at h; subst h
      obtain ⟨hs, hob⟩ := hw.obs _ _ hH
      have hv := hx.1.1
      rcases hob with ⟨rfl, A, h1⟩ | ⟨b, cap, l, mm, h1, h2, h3, h4, h5, h6, h7⟩
      · rw [h1] at hv; simp only [Option.some.injEq] at hv; exact ⟨A, 0, hv.symm, Nat.le_refl _, by omega⟩
      · rw [h1] at hv; simp only [Option.some.injEq] at hv; exact ⟨_, cap, hv.symm, h4, h5⟩
    · cases h
  · split at h
    · rename_i T s xs hH
      simp only [Option.some.injEq] at h; subst h
      obtain ⟨hs, hob⟩ := hw.obs _ _ hH
      obtain ⟨b0, n0, c0, hv1, hv2, hv3⟩ := hx.1
      rcases hob with ⟨rfl, A, h1⟩ | ⟨b, cap, l, mm, h1, h2, h3, h4, h5, h6, h7⟩
      · rw [h1] at hv1; simp only [Option.some.injEq, Value.slice.injEq] at hv1; exact ⟨_, c0, hv2, by omega, by omega⟩
      · rw [h1] at hv1; simp only [Option.some.injEq, Value.slice.injEq] at hv1; exact ⟨_, c0, hv2, by omega, by omega⟩
    · cases h
  · cases h
theorem xeqs1 {l : List Operand} {x : X} (h : xeqs l [x] = true) : ∃ p, l = [p] ∧ xeq p x = true := by
  cases l with
  | nil => simp [xeqs] at h
  | cons p l => cases l with
    | nil => simp [xeqs] at h; exact ⟨p, rfl, h⟩
    | cons q l => simp [xeqs] at h
theorem xeqs2 {l : List Operand} {x y : X} (h : xeqs l [x, y] = true) : ∃ p q, l = [p, q] ∧ xeq p x = true ∧ xeq q y = true := by
  cases l with
  | nil => simp [xeqs] at h
  | cons p l => cases l with
    | nil => simp [xeqs] at h
    | cons q l => cases l with
      | nil => simp [xeqs] at h; exact ⟨p, q, rfl, h⟩
      | cons r l => simp [xeqs] at h
theorem s_len (hw : WR bs V O own dom w H rm) (hf : FRn n V O a fr) {x : X} (hc : chk P o (.len x) = true) {k : Nat} (h : lenA H (ev fr x) = some k) : Gives P o a w V O (I k) := by
  simp only [chk] at hc
  split at hc
  · rename_i c hop
    simp only [Bool.and_eq_true] at hc
    obtain ⟨⟨hb, hx⟩, ht⟩ := hc
    obtain ⟨p, hp, hx'⟩ := xeqs1 hx
    obtain ⟨A, cc, hv, _⟩ := lenA_sound hw (xeq_eval hf hx') h
    have hcal : c.callee = .builtin .len := by
      revert hb; cases c.callee <;> simp
      rename_i b; cases b <;> simp
    split at ht
    · rename_i t htl
      obtain ⟨e, he⟩ := Option.isSome_iff_exists.1 ht
      have hu := telem_eq he
      have ha : c.args = #[p] := by rw [← Array.toList_inj]; exact hp
      have hat : c.argTypes = #[t] := by rw [← Array.toList_inj]; exact htl
      refine ⟨.int .i64 k, ?_, RV_v rfl⟩
      simp [execOp, hop, resolve, invoke, builtin, hcal, ha, hat, Builtin.len_, hv, run_underlying hu, goInt]
    · cases ht
  · cases hc
theorem s_mnmx (hf : FRn n V O a fr) {mn : Bool} {x y : X} (hc : chk P o (.mnmx mn x y) = true) {p q : Int} (hx : ev fr x = I p) (hy : ev fr y = I q) :
    Gives P o a w V O (I (if mn then (if q < p then q else p) else (if q > p then q else p))) := by
  simp only [chk] at hc
  split at hc
  · rename_i c hop
    simp only [Bool.and_eq_true] at hc
    obtain ⟨hb, hxs⟩ := hc
    obtain ⟨r, s, hrs, h1, h2⟩ := xeqs2 hxs
    have ex := xeq_eval hf h1
    have ey := xeq_eval hf h2
    rw [hx] at ex; rw [hy] at ey
    have ha : c.args = #[r, s] := by rw [← Array.toList_inj]; exact hrs
    cases mn with
    | true =>
      have hcal : c.callee = .builtin .min := by
        revert hb; cases c.callee <;> simp
        rename_i b; cases b <;> simp
      refine ⟨.int .i64 (if q < p then q else p), ?_, RV_v rfl⟩
      simp [execOp, hop, resolve, invoke, builtin, hcal, ha, Builtin.min_, v_int ex, v_int ey, Builtin.min2]
    | false =>
      have hcal : c.callee = .builtin .max := by
        revert hb; cases c.callee <;> simp
        rename_i b; cases b <;> simp
      refine ⟨.int .i64 (if q > p then q else p), ?_, RV_v rfl⟩
      simp [execOp, hop, resolve, invoke, builtin, hcal, ha, Builtin.max_, v_int ex, v_int ey, Builtin.max2]
  · cases hc
end
end Av
end Go.Proofs.Ytdboofnogabefaa
/- Layer Av, part 7: slicing, building a struct; what comes of a new block. -/
namespace Go.Proofs.Ytdboofnogabefaa
namespace Av
open Go.RowKit
section
variable {P : Program} {bs : Base} {V : Vw} {O : Nat → Option Value} {own : Nat → Option Nat} {dom : Nat → Prop} {w : World} {H : Hp} {rm n : Nat} {a : Act} {fr : Env} {o : Oper}
def bval (x : Option Value) (dflt l : Nat) : Prop := (x = none ∧ l = dflt) ∨ ∃ k i, x = some (.int k i) ∧ 0 ≤ i ∧ i.toNat = l
theorem bnd_sound (hf : FRn n V O a fr) {p : Option Operand} {x : Option X} (h : xeqo p x = true) {d l : Nat} (hb : bnd fr d x = some l) : bval (p.map a.eval) d l := by
  unfold bnd at hb
  split at hb
  · simp only [Option.some.injEq] at hb; subst hb
    cases p with
    | none => exact .inl ⟨rfl, rfl⟩
    | some p => simp [xeqo] at h
  · rename_i y
    cases p with
    | none => simp [xeqo] at h
    | some p =>
      have e := xeq_eval hf (show xeq p y = true from h)
      split at hb
      · rename_i k i hv
        rw [hv] at e
        split at hb
        · rename_i h0
          simp only [Option.some.injEq] at hb
          exact .inr ⟨k, i, by simp [v_int e], h0, hb⟩
        · cases hb
      · cases hb
theorem run_bounds {len cap l h m : Nat} {lo hi mx : Option Value} (hl : bval lo 0 l) (hh : bval hi len h) (hm : bval mx cap m) (h1 : l ≤ h) (h2 : h ≤ m) (h3 : m ≤ cap) (hs : mx.isSome = true → hi.isSome = true) :
    (Instr.sliceBounds true len cap lo hi mx).run P w = .ok (l, h, m) w := by
  rcases hm with ⟨rfl, rfl⟩ | ⟨km, im, rfl, m0, rfl⟩
  · rcases hh with ⟨rfl, rfl⟩ | ⟨kh, ih, rfl, h0, rfl⟩
    · rcases hl with ⟨rfl, rfl⟩ | ⟨kl, il, rfl, l0, rfl⟩
      · simp [Instr.sliceBounds]
      · simp [Instr.sliceBounds, run_sliceBound (P := P) w kl il h .sliceB l0 (by omega)]
    · rcases hl with ⟨rfl, rfl⟩ | ⟨kl, il, rfl, l0, rfl⟩
      · simp [Instr.sliceBounds, run_sliceBound (P := P) w kh ih m .sliceAcap h0 (by omega)]
      · simp [Instr.sliceBounds, run_sliceBound (P := P) w kh ih m .sliceAcap h0 (by omega), run_sliceBound (P := P) w kl il ih.toNat .sliceB l0 (by omega)]
  · rcases hh with ⟨rfl, rfl⟩ | ⟨kh, ih, rfl, h0, rfl⟩
    · simp at hs
    · rcases hl with ⟨rfl, rfl⟩ | ⟨kl, il, rfl, l0, rfl⟩
      · simp [Instr.sliceBounds, run_sliceBound (P := P) w km im cap .slice3Acap m0 (by omega), run_sliceBound (P := P) w kh ih im.toNat .slice3B h0 (by omega)]
      · simp [Instr.sliceBounds, run_sliceBound (P := P) w km im cap .slice3Acap m0 (by omega), run_sliceBound (P := P) w kh ih im.toNat .slice3B h0 (by omega), run_sliceBound (P := P) w kl il ih.toNat .slice3C l0 (by omega)]
theorem elem_eq {t e : Nat} (h : telem P t = some e) : P.elem t = e := by
  have := telem_eq h
  simp [Program.elem, this]
theorem run_slcAt {t e sz : Nat} (he : telem P t = some e) (hz : tsize P e = some sz) {A : Option Addr} {len cap l h m : Nat} {lo hi mx : Option Value} (hl : bval lo 0 l) (hh : bval hi len h) (hm : bval mx cap m)
    (h1 : l ≤ h) (h2 : h ≤ m) (h3 : m ≤ cap) (hs : mx.isSome = true → hi.isSome = true) :
    (Instr.sliceAt t (.slice A len cap) lo hi mx).run P w = .ok (sliced A l h m sz) w := by
  have hu : P.underlying t = some (.slice (P.elem t)) := by rw [elem_eq he]; exact telem_eq he
  rw [run_sliceAt_slice w t _ lo hi mx hu, run_slice_any w t A len cap hu, run_bounds hl hh hm h1 h2 h3 hs]
  simp only [Result.andThen_ok]
  rw [elem_eq he, run_tsize hz]
  rfl
theorem s_slv (hw : WR bs V O own dom w H rm) (hf : FRn n V O a fr) {sz : Nat} {x hi : X} (hc : chk P o (.slv sz x hi) = true) {out : Out} (h : slvA fr sz (ev fr x) hi H = some out) : Gives' P o a w V O H out := by
  simp only [chk] at hc
  split at hc
  · rename_i t y h' hop
    simp only [Bool.and_eq_true] at hc
    obtain ⟨⟨hx', hh⟩, hel⟩ := hc
    have ex := xeq_eval hf hx'
    split at hel
    · rename_i e he
      have hsz : tsize P e = some sz := by simpa using hel
      unfold slvA at h
      split at h
      · rename_i k hx
        rw [hx] at ex
        split at h
        · rename_i T s xs hH
          split at h
          · rename_i hb0 hb
            split at h
            · rename_i hcnd
              obtain ⟨rfl, h1, h2⟩ := hcnd
              simp only [Option.some.injEq] at h; subst h
              obtain ⟨hs, hob⟩ := hw.obs _ _ hH
              rcases hob with ⟨rfl, _⟩ | ⟨b, cap, l, m, q1, q2, q3, q4, q5, q6, q7⟩
              · simp at h2
              · have hv : a.eval y = .slice (some ⟨b, 0, none⟩) xs.length cap := by
                  have := ex.1.1; rw [q1] at this; exact (Option.some.inj this).symm
                have b2 : bval (some (a.eval h')) xs.length hb0 := by
                  rcases bnd_sound hf (p := some h') (x := some hi) hh hb with ⟨e0, _⟩ | e0
                  · cases e0
                  · exact .inr e0
                have hsl : sliced (some ⟨b, 0, none⟩) 0 hb0 cap s = .slice (some ⟨b, 0, none⟩) hb0 cap := by
                  unfold sliced
                  rw [if_neg (by omega)]
                  simp [add_lit]
                have hr := run_slcAt (w := w) he hsz (A := some ⟨b, 0, none⟩) (len := xs.length) (cap := cap) (l := 0) (h := hb0) (m := cap) (lo := none) (hi := some (a.eval h')) (mx := none) (.inl ⟨rfl, rfl⟩) b2 (.inl ⟨rfl, rfl⟩) (Nat.zero_le _) (by omega) (Nat.le_refl _) (fun h => by cases h)
                refine ⟨rfl, sliced (some ⟨b, 0, none⟩) 0 hb0 cap s, ?_, ⟨⟨b, _, cap, q1, hsl, h1⟩, fun _ => by rw [hsl]; rfl⟩⟩
                simp [execOp, hop, hv, hr]
            · cases h
          · cases h
        · cases h
      · cases h
    · cases hel
  · cases hc
theorem RF_cut {A : Option Addr} {len cap sz : Nat} {xs : List (List FV)} (h : RF V (.slice A len cap) (.sl sz xs)) {l hh m : Nat} (h1 : l ≤ hh) (h2 : hh ≤ m) (h3 : m ≤ cap) (h4 : hh ≤ xs.length) :
    RF V (sliced A l hh m sz) (.sl sz ((xs.take hh).drop l)) := by
  generalize hx : Value.slice A len cap = x at h
  cases h with
  | sl u hl hc hm hA hs hV hr =>
    rename_i b off
    cases hx
    unfold sliced
    have hget : ∀ (j : Nat) y, ((xs.take hh).drop l)[j]? = some y → xs[l + j]? = some y := by
      intro j y hy
      rw [List.getElem?_drop, List.getElem?_take] at hy
      split at hy
      · exact hy
      · cases hy
    refine RF.sl (b := b) (off := off + l * sz) (fun j i => u (l + j) i) (by rw [List.length_drop, List.length_take]; omega) (by omega) (by omega) (fun hp => ?_) (fun j y hy => hs _ _ (hget j y hy)) (fun j y i z hy hz => ?_) (fun j y i z hy hz => hr _ _ _ _ (hget j y hy) hz)
    · rw [if_neg (by omega), hA (by omega)]
      simp [add_lit]
    · rw [← hV _ _ _ _ (hget j y hy) hz]
      congr 1
      rw [Nat.add_mul]; omega
theorem s_slc (hf : FRn n V O a fr) {sz : Nat} {x : X} {lo hi mx : Option X} (hc : chk P o (.slc sz x lo hi mx) = true) {out : Out} (h : slcA fr sz (ev fr x) lo hi mx H = some out) : Gives' P o a w V O H out := by
  simp only [chk] at hc
  split at hc
  · rename_i t y l' h' m' hop
    simp only [Bool.and_eq_true] at hc
    obtain ⟨⟨⟨⟨⟨hx, hl⟩, hh⟩, hm⟩, hms⟩, hel⟩ := hc
    have ex := xeq_eval hf hx
    split at hel
    · rename_i e he
      have hsz : tsize P e = some sz := by simpa using hel
      have hs : (m'.map a.eval).isSome = true → (h'.map a.eval).isSome = true := by
        cases m' <;> cases h' <;> simp at hms ⊢
      have hrun : ∀ {A len cap l h m}, a.eval y = .slice A len cap → bval (l'.map a.eval) 0 l → bval (h'.map a.eval) len h → bval (m'.map a.eval) cap m → l ≤ h → h ≤ m → m ≤ cap → (execOp a.eval o).run P w = .ok (.value (sliced A l h m sz)) w := by
        intro A len cap l h m h1 h2 h3 h4 h5 h6 h7
        simp [execOp, hop, h1, run_slcAt he hsz h2 h3 h4 h5 h6 h7 hs]
      have main : ∀ (s : Nat) (xs : List (List FV)), RF V (a.eval y) (.sl s xs) → slcA fr sz (S s xs) lo hi mx H = some out → Gives' P o a w V O H out := by
        intro s xs hr h
        simp only [slcA] at h
        obtain ⟨A, len, cap, hv, hlen, hcap, hmax, -⟩ := RC_slice_form hr
        split at h
        · rename_i l hhi hb1 hb2
          have b1 := bnd_sound hf hl hb1
          have b2 := bnd_sound hf hh hb2
          rw [hlen] at b2
          split at h
          · split at h
            · rename_i hcnd
              obtain ⟨rfl, q1, q2⟩ := hcnd
              simp only [Option.some.injEq] at h; subst h
              have b3 : bval (m'.map a.eval) cap cap := by
                cases m' with
                | none => exact .inl ⟨rfl, rfl⟩
                | some _ => simp [xeqo] at hm
              refine ⟨rfl, _, hrun hv b1 b2 b3 q1 (by omega) (Nat.le_refl _), RV_c ?_⟩
              rw [hv] at hr
              exact RF_cut hr q1 (by omega) (Nat.le_refl _) q2
            · cases h
          · rename_i mm
            split at h
            · rename_i m2 hb3
              have b3 := bnd_sound hf hm hb3
              split at h
              · rename_i hcnd
                obtain ⟨rfl, q1, q2, q3⟩ := hcnd
                simp only [Option.some.injEq] at h; subst h
                have b3' : bval (m'.map a.eval) cap m2 := by
                  rcases b3 with ⟨h0, _⟩ | h0
                  · cases m' with
                    | none => simp [xeqo] at hm
                    | some _ => simp at h0
                  · exact .inr h0
                refine ⟨rfl, _, hrun hv b1 b2 b3' q1 q2 (by omega), ?_⟩
                split
                · rename_i hml
                  have : hhi = l := by omega
                  exact ⟨⟨A, by simp [sliced, hml, this]⟩, fun _ => rfl⟩
                · refine RV_c ?_
                  rw [hv] at hr
                  exact RF_cut hr q1 q2 (by omega) (by omega)
              · cases h
            · cases h
        · cases h
      unfold slcA at h
      split at h
      · rename_i s xs e1
        rw [e1] at ex
        exact main s xs ex.1 (by simpa only [slcA] using h)
      · rename_i k s xs e1
        rw [e1] at ex
        exact main s xs ex.1.2 (by simpa only [slcA] using h)
      · rename_i e1
        rw [e1] at ex
        obtain ⟨A, hv⟩ := e0_form ex
        split at h
        · rename_i hb1 hb2 hb3
          simp only [Option.some.injEq] at h; subst h
          refine ⟨rfl, _, hrun hv (bnd_sound hf hl hb1) (bnd_sound hf hh hb2) (bnd_sound hf hm hb3) (Nat.le_refl _) (Nat.le_refl _) (Nat.le_refl _), ⟨A, by simp [sliced]⟩, fun _ => by simp [sliced, Value.oneCell']⟩
        · cases h
      · cases h
    · cases hel
  · cases hc
/-! ### building a struct -/
theorem fold_put_at (vs : List Value) : ∀ (off k : Nat) (cells : Array Value), off + k + vs.length ≤ cells.size →
    ((vs.zipIdx k).foldl (fun (cs : Array Value) (p : Value × Nat) => cs.setIfInBounds (off + p.2) p.1) cells).size = cells.size ∧
    ∀ j, ((vs.zipIdx k).foldl (fun (cs : Array Value) (p : Value × Nat) => cs.setIfInBounds (off + p.2) p.1) cells)[j]? = if off + k ≤ j ∧ j < off + k + vs.length then vs[j - (off + k)]? else cells[j]? := by
  induction vs with
  | nil => intro off k cells h; exact ⟨rfl, fun j => by rw [if_neg (by simp only [List.length_nil]; omega)]; rfl⟩
  | cons v vs ih =>
    intro off k cells h
    simp only [List.zipIdx_cons, List.foldl_cons]
    simp only [List.length_cons] at h
    obtain ⟨i1, i2⟩ := ih off (k + 1) (cells.setIfInBounds (off + k) v) (by simp; omega)
    refine ⟨by rw [i1]; simp, fun j => ?_⟩
    rw [i2 j]
    simp only [List.length_cons]
    by_cases h1 : off + (k + 1) ≤ j ∧ j < off + (k + 1) + vs.length
    · rw [if_pos h1, if_pos (by omega), show j - (off + k) = (j - (off + (k + 1))) + 1 by omega, List.getElem?_cons_succ]
    · rw [if_neg h1]
      by_cases h2 : j = off + k
      · subst h2
        rw [if_pos (by omega), Nat.sub_self, List.getElem?_cons_zero, Array.getElem?_setIfInBounds_self_of_lt (by omega)]
      · rw [if_neg (by omega), Array.getElem?_setIfInBounds_ne (by omega)]
theorem fold_put (vs : List Value) (off : Nat) (cells : Array Value) (h : off + vs.length ≤ cells.size) :
    ((vs.zipIdx 0).foldl (fun (cs : Array Value) (p : Value × Nat) => cs.setIfInBounds (off + p.2) p.1) cells).toList = cells.toList.take off ++ vs ++ cells.toList.drop (off + vs.length) := by
  obtain ⟨i1, i2⟩ := fold_put_at vs off 0 cells (by simpa using h)
  apply List.ext_getElem?
  intro j
  rw [Array.getElem?_toList, i2 j]
  simp only [Nat.add_zero]
  have hsz : cells.toList.length = cells.size := by simp
  by_cases h1 : j < off
  · rw [if_neg (by omega), List.append_assoc, List.getElem?_append_left (by rw [List.length_take]; omega), List.getElem?_take, if_pos h1]; simp
  · have ht : (cells.toList.take off).length = off := by rw [List.length_take]; omega
    by_cases h2 : j < off + vs.length
    · rw [if_pos (by omega), List.append_assoc, List.getElem?_append_right (by omega), ht, List.getElem?_append_left (by omega)]
    · rw [if_neg (by omega), List.getElem?_append_right (by rw [List.length_append, ht]; omega), List.length_append, ht, List.getElem?_drop]
      simp only [Array.getElem?_toList]; congr 1; omega
theorem cells_one {x : Value} (h : x.oneCell' = true) : x.cells = #[x] := by cases x <;> first | rfl | (simp [Value.oneCell'] at h)
theorem RC_one {x : Value} {c : AC} (h : RC V O x c) (h1 : x.oneCell' = true) : RCs V O [x] [c] := by
  refine ⟨rfl, fun i y d h2 h3 => ?_⟩
  cases i with
  | zero => simp at h2 h3; subst h2; subst h3; exact ⟨h, h1⟩
  | succ i => simp at h2
theorem cellsOf_sound {x : Value} {v : AV} (h : RV V O x v) {cs : List AC} (hc : cellsOf v = some cs) : RCs V O x.cells.toList cs := by
  unfold cellsOf at hc
  split at hc
  · cases hc
  · rename_i c hj
    simp only [Option.some.injEq] at hc; subst hc
    have h1 := h.2 (by intro e; exact hj (by rw [e]))
    rw [cells_one h1]
    exact RC_one h.1 h1
  · rename_i ds
    simp only [Option.some.injEq] at hc; subst hc
    obtain ⟨l, rfl, h2⟩ := h
    simpa [Value.cells] using h2
  · cases hc
end
end Av
end Go.Proofs.Ytdboofnogabefaa
/- Layer Av, part 8: building a struct; new blocks: a variable, a slice. -/
namespace Go.Proofs.Ytdboofnogabefaa
namespace Av
open Go.RowKit
theorem mapM_get {α β : Type} {g : α → Option β} : ∀ {fs : List α} {ps : List β}, fs.mapM g = some ps → ∀ (i : Nat) f, fs[i]? = some f → ∃ p, g f = some p ∧ ps[i]? = some p
  | [], ps, h, i, f, hf => by simp at hf
  | x :: fs, ps, h, i, f, hf => by
    simp only [List.mapM_cons, Option.bind_eq_bind, Option.pure_def] at h
    cases hx : g x with
    | none => simp [hx] at h
    | some y =>
      cases hr : fs.mapM g with
      | none => simp [hx, hr] at h
      | some rest =>
        simp [hx, hr] at h
        subst h
        cases i with
        | zero => simp at hf; subst hf; exact ⟨y, hx, rfl⟩
        | succ i =>
          obtain ⟨p, h1, h2⟩ := mapM_get hr i f (by simpa using hf)
          exact ⟨p, h1, by simpa using h2⟩
section
variable {P : Program} {bs : Base} {V : Vw} {O : Nat → Option Value} {own : Nat → Option Nat} {dom : Nat → Prop} {w : World} {H : Hp} {rm n : Nat} {a : Act} {fr : Env} {o : Oper}
theorem RCs_zero {l : List Value} (h : ∀ x, x ∈ l → x.oneCell' = true) : RCs V O l (l.map ofV) :=
  ⟨by simp, fun i x c h1 h2 => by
    simp only [List.getElem?_map, h1, Option.map_some, Option.some.injEq] at h2
    subst h2
    have := h x (List.mem_of_getElem? h1)
    exact ⟨RC_ofV V O this, this⟩⟩
theorem zeroB_ok {t : TypeId} {zs : List Value} (h : zeroB P t zs = true) : ∃ i z, P.info? t = some i ∧ i.zero = some z ∧ z.cells.toList = zs ∧ ∀ x, x ∈ zs → x.oneCell' = true := by
  unfold zeroB at h
  split at h
  · rename_i i hi
    split at h
    · rename_i z hz
      obtain ⟨e, ho⟩ := veqs_eq h
      exact ⟨i, z, hi, hz, e, by rw [← e]; exact ho⟩
    · cases h
  · cases h
theorem fill_sound (hf : FRn n V O a fr) {t : TypeId} {fs : Array Field} (hu : P.underlying t = some (.struct fs)) {places : List (Nat × Nat)} (hp : fs.toList.mapM (fun f => (P.info? f.type).map fun i => (f.offset, i.size)) = some places) :
    ∀ (qs : List (Nat × Operand)) (ps : List (Nat × Nat × X)) (l : List Value) (cs : List AC) {cs' : List AC}, RCs V O l cs → partsB P t qs ps = true → fillA fr cs ps = some cs' →
      ∃ l' : List Value, Instr.fill (places.toArray[·]?) l.toArray (qs.map fun p => (p.1, a.eval p.2)) = some l'.toArray ∧ RCs V O l' cs'
  | [], [], l, cs, cs', hr, _, h => by simp [fillA] at h; subst h; exact ⟨l, rfl, hr⟩
  | (i, x) :: qs, (off, m, y) :: ps, l, cs, cs', hr, hb, h => by
    simp only [partsB, Bool.and_eq_true] at hb
    obtain ⟨⟨h1, hx⟩, h2⟩ := hb
    have ex := xeq_eval hf hx
    unfold fillA at h
    split at h
    · rename_i ds hds
      split at h
      · rename_i hcnd
        obtain ⟨hm, hle⟩ := hcnd
        have hc := cellsOf_sound ex hds
        have hpl : places[i]? = some (off, m) := by
          split at h1
          · rename_i o' ft hft
            simp only [Bool.and_eq_true, beq_iff_eq] at h1
            obtain ⟨rfl, hsz⟩ := h1
            unfold tfield at hft
            rw [hu] at hft
            obtain ⟨f, hf1, hf2⟩ := Option.map_eq_some_iff.1 hft
            simp only [Prod.mk.injEq] at hf2
            obtain ⟨rfl, rfl⟩ := hf2
            obtain ⟨p, hg, hpp⟩ := mapM_get hp i f (by simpa using hf1)
            unfold tsize at hsz
            obtain ⟨ti, hti, rfl⟩ := Option.map_eq_some_iff.1 hsz
            rw [hti] at hg
            simp only [Option.map_some, Option.some.injEq] at hg
            rw [hpp, ← hg]
          · cases h1
        have hcl : (a.eval x).cells.size = m := by
          have := hc.1
          rw [Array.length_toList] at this
          omega
        have hlen : l.length = cs.length := hr.1
        have hput := fold_put (a.eval x).cells.toList off l.toArray (by simp; omega)
        simp only [List.toList_toArray, Array.length_toList, hcl] at hput
        obtain ⟨l', e1, e2⟩ := fill_sound hf hu hp qs ps (l.take off ++ (a.eval x).cells.toList ++ l.drop (off + m)) (put cs off ds)
          (by unfold put
              have hdl : ds.length = m := hm
              rw [hdl]
              exact ((hr.take off).append hc).append (hr.drop (off + m))) h2 h
        refine ⟨l', ?_, e2⟩
        rw [← e1]
        simp only [List.map_cons, Instr.fill]
        have hpa : places.toArray[i]? = some (off, m) := by simpa using hpl
        rw [hpa]
        simp only []
        rw [if_neg (by simp [hcl]; omega)]
        congr 1
        apply Array.ext'
        rw [← hput]
        rw [← Array.foldl_toList, Array.toList_zipIdx]
      · cases h
    · cases h
  | [], _ :: _, l, cs, cs', hr, hb, h => by simp [partsB] at hb
  | _ :: _, [], l, cs, cs', hr, hb, h => by simp [partsB] at hb
theorem s_build (hf : FRn n V O a fr) {zs : List Value} {ps : List (Nat × Nat × X)} (hc : chk P o (.build zs ps) = true) {cs : List AC} (h : fillA fr (zs.map ofV) ps = some cs) : Gives P o a w V O (.w (.g cs)) := by
  simp only [chk] at hc
  split at hc
  · rename_i t qs hop
    simp only [Bool.and_eq_true] at hc
    obtain ⟨⟨hz, hp⟩, hm⟩ := hc
    obtain ⟨i, z, hi, hzz, e, ho⟩ := zeroB_ok hz
    split at hm
    · rename_i fs hu
      obtain ⟨places, hpl⟩ := Option.isSome_iff_exists.1 hm
      obtain ⟨l', h1, h2⟩ := fill_sound hf hu hpl qs.toList ps zs (zs.map ofV) (RCs_zero ho) hp h
      refine ⟨.agg l'.toArray, ?_, l', rfl, h2⟩
      have hb : P.built t (qs.map fun p => (p.1, a.eval p.2)).toList = some l'.toArray := by
        unfold Program.built
        simp only [hi, hu, hzz, hpl]
        rw [← h1]
        congr 1
        · apply Array.ext'; simpa using e
        · simp
      have hr := run_build (P := P) w t (qs.map fun p => (p.1, a.eval p.2)) l'.toArray hb
      simp only [execOp, hop, Sem.run_bind]
      rw [hr]; rfl
    · cases hm
  · cases hc
/-! ### a new block -/
def updO (k : Nat) (v : Value) (O : Nat → Option Value) : Nat → Option Value := fun j => if j = k then some v else O j
def updN (b k : Nat) (own : Nat → Option Nat) : Nat → Option Nat := fun j => if j = b then some k else own j
theorem updO_le {k : Nat} {v : Value} (hd : ∀ u, O k = some u → False) : ∀ j u, O j = some u → updO k v O j = some u := by
  intro j u hj
  unfold updO
  split
  · rename_i e; subst e; exact (hd _ hj).elim
  · exact hj
theorem heap_push_old (w : World) (ob : Obj) {b : Nat} (h : b < w.heap.size) : (w.alloc ob).heap[b]? = w.heap[b]? := Below.heap_alloc w ob b h
theorem heap_push_new (w : World) (ob : Obj) : (w.alloc ob).heap[w.heap.size]? = some ob := heap_alloc_new w ob
theorem WR.new (hw : WR bs V O own dom w H rm) {nm : Nat} (hd : ¬ dom nm) {v : Value} {ob : Obj} {oo : Ob} (w' : World) (hh : w'.heap = w.heap.push ob) (hos : w'.os = w.os) (htp : w'.tape = w.tape) (hout : w'.output = w.output)
    (hor : OR V (updO nm v O) (updN w.heap.size nm own) w' rm nm oo) : WR bs V (updO nm v O) (updN w.heap.size nm own) (fun k => dom k ∨ k = nm) w' (hupd nm (some oo) H) rm := by
  have hO : ∀ u, O nm = some u → False := fun u e => hd (hw.domO _ _ e)
  have hold : ∀ b, b < w.heap.size → w'.heap[b]? = w.heap[b]? := fun b hb => by rw [hh]; exact heap_push_old w ob hb
  have hsz : w'.heap.size = w.heap.size + 1 := by rw [hh]; simp
  refine ⟨fun b o u e => ?_, fun b o u e => ?_, fun k ob' e => ?_, fun k u e => ?_, fun k ob' e => ?_, fun b k e => ?_, fun b b' k e e' => ?_, hw.vb, hw.v0, hos.trans hw.os, htp.trans hw.tape, hout.trans hw.output, by have := hw.size; omega, fun b hb hn => ?_, fun k u e => updO_le hO k u (hw.o0 k u e)⟩
  · have hlt := Vw.sub_lt hw.sub e
    rw [World.cell?_of_block (hold b hlt)]; exact hw.sub _ _ _ e
  · have hlt := Vw.sub_lt hw.sub e
    have hne : b ≠ w.heap.size := by omega
    rcases hw.vo b o u e with h0 | ⟨k, T, sz, m, h1, h2, h3⟩
    · exact .inl (by unfold updN; rw [if_neg hne]; exact h0)
    · refine .inr ⟨k, T, sz, m, by unfold updN; rw [if_neg hne]; exact h1, ?_, h3⟩
      have : k ≠ nm := fun e => hd (e ▸ hw.domH _ _ h2)
      unfold hupd; rw [if_neg this]; exact h2
  · unfold hupd at e
    split at e
    · rename_i ek; subst ek; simp only [Option.some.injEq] at e; subst e; exact hor
    · refine (hw.obs k ob' e).mono (Vw.le_refl _) (updO_le hO) (fun b hb => ?_) (Nat.le_refl _)
      have hlt := (hw.ownb b k hb).1
      exact ⟨by unfold updN; rw [if_neg (by omega)]; exact hb, hold b hlt⟩
  · unfold updO at e
    split at e
    · exact .inr (by assumption)
    · exact .inl (hw.domO _ _ e)
  · unfold hupd at e
    split at e
    · exact .inr (by assumption)
    · exact .inl (hw.domH _ _ e)
  · unfold updN at e
    split at e
    · rename_i eb; subst eb; simp only [Option.some.injEq] at e; subst e
      exact ⟨by omega, .inr hw.size, .inr rfl⟩
    · obtain ⟨h1, h2, h3⟩ := hw.ownb b k e
      exact ⟨by omega, h2, .inl h3⟩
  · unfold updN at e e'
    split at e
    · simp only [Option.some.injEq] at e; subst e
      split at e'
      · omega
      · exact absurd (hw.ownb _ _ e').2.2 hd
    · split at e'
      · simp only [Option.some.injEq] at e'; subst e'
        exact absurd (hw.ownb _ _ e).2.2 hd
      · exact hw.uniq _ _ _ e e'
  · rw [hold b (Nat.lt_of_lt_of_le hb hw.size)]; exact hw.block b hb hn
theorem WR.drew (hw : WR bs V O own dom w H rm) : WR bs V O own dom w.drew H rm :=
  ⟨hw.sub, hw.vo, fun k ob e => (hw.obs k ob e).mono (Vw.le_refl _) (fun _ _ h => h) (fun b hb => ⟨hb, rfl⟩) (Nat.le_refl _), hw.domO, hw.domH, hw.ownb, hw.uniq, hw.vb, hw.v0, hw.os, hw.tape, hw.output, hw.size, hw.block, hw.o0⟩
end
end Av
end Go.Proofs.Ytdboofnogabefaa
/- Layer Av, part 9: the operations that make a block: a variable, a slice. -/
namespace Go.Proofs.Ytdboofnogabefaa
namespace Av
open Go.RowKit
section
variable {P : Program} {bs : Base} {V : Vw} {O : Nat → Option Value} {own : Nat → Option Nat} {dom : Nat → Prop} {w : World} {H : Hp} {rm n nm : Nat} {a : Act} {fr : Env} {o : Oper}
/-- What an operation comes to that makes an object, or writes one: a value, a new world. -/
def Makes (P : Program) (bs : Base) (o : Oper) (a : Act) (w : World) (V : Vw) (O : Nat → Option Value) (dom : Nat → Prop) (nm rm : Nat) (r : AV) (H' : Hp) : Prop :=
  ∃ nx w' V' O' own', (nx = .skip ∨ ∃ v, nx = .value v ∧ RV V' O' v r) ∧ (nx = .skip → r = J) ∧ (execOp a.eval o).run P w = .ok nx w' ∧ V.le V' ∧ (∀ k v, O k = some v → O' k = some v) ∧
    WR bs V' O' own' (fun k => dom k ∨ (nm ≤ k ∧ k < nm + 16)) w' H' rm
theorem dom_nm {dom : Nat → Prop} {nm : Nat} : ∀ k, (dom k ∨ k = nm) → (dom k ∨ (nm ≤ k ∧ k < nm + 16)) := fun k h => h.imp id (fun e => by omega)
theorem makes_new (hw : WR bs V O own dom w H rm) (hd : ¬ dom nm) {v : Value} {ob : Obj} {oo : Ob} {r : AV} (hrun : (execOp a.eval o).run P w = .ok (.value v) (w.alloc ob))
    (hr : RV V (updO nm v O) v r) (hor : OR V (updO nm v O) (updN w.heap.size nm own) (w.alloc ob) rm nm oo) : Makes P bs o a w V O dom nm rm r (hupd nm (some oo) H) :=
  ⟨_, _, V, _, _, .inr ⟨v, rfl, hr⟩, by simp, hrun, Vw.le_refl _, updO_le (fun u e => hd (hw.domO _ _ e)), (hw.new hd (w.alloc ob) rfl rfl rfl rfl hor).dommono dom_nm⟩
theorem updO_self (k : Nat) (v : Value) (O : Nat → Option Value) : updO k v O k = some v := by simp [updO]
theorem updN_self (b k : Nat) (own : Nat → Option Nat) : updN b k own b = some k := by simp [updN]
theorem s_alloc (hw : WR bs V O own dom w H rm) (hd : ¬ dom nm) {zs : List Value} (hc : chk P o (.alloc zs) = true) : Makes P bs o a w V O dom nm rm (.w (.o (.ptr nm 0))) (hupd nm (some (.cells (zs.map ofV))) H) := by
  simp only [chk] at hc
  split at hc
  · rename_i t hop
    obtain ⟨i, z, hi, hz, e, ho⟩ := zeroB_ok hc
    have hrun : (execOp a.eval o).run P w = .ok (.value (.pointer (some ⟨w.heap.size, 0, none⟩))) (w.alloc (.cells z.cells t)) := by
      simp [execOp, hop, Instr.alloc, zeroValue, typeInfo, hi, hz, newVar, newRow]
    refine makes_new hw hd hrun ⟨⟨w.heap.size, updO_self _ _ _, rfl⟩, fun _ => rfl⟩ ⟨w.heap.size, t, zs, updO_self _ _ _, updN_self _ _ _, ?_, RCs_zero ho⟩
    rw [heap_push_new, ← e]
  · cases hc
theorem s_box (hw : WR bs V O own dom w H rm) (hf : FRn n V O a fr) (hd : ¬ dom nm) {x : X} (hc : chk P o (.box x) = true) {cs : List AC} (h : cellsOf (ev fr x) = some cs) : Makes P bs o a w V O dom nm rm (.w (.o (.ptr nm 0))) (hupd nm (some (.cells cs)) H) := by
  simp only [chk] at hc
  split at hc
  · rename_i t y hop
    have ex := xeq_eval hf hc
    have hcs := cellsOf_sound ex h
    have hrun : (execOp a.eval o).run P w = .ok (.value (.pointer (some ⟨w.heap.size, 0, none⟩))) (w.alloc (.cells (a.eval y).cells t)) := by
      simp [execOp, hop, Instr.box, newVar, newRow]
    refine makes_new hw hd hrun ⟨⟨w.heap.size, updO_self _ _ _, rfl⟩, fun _ => rfl⟩ ⟨w.heap.size, t, (a.eval y).cells.toList, updO_self _ _ _, updN_self _ _ _, ?_, ?_⟩
    · rw [heap_push_new]
    · exact hcs.mono (Vw.le_refl _) (updO_le (fun u e => hd (hw.domO _ _ e)))
  · cases hc
theorem fill_seq (hf : FRn n V O a fr) (sz : Nat) : ∀ (qs : List (Nat × Operand)) (xs : List X) (css : List (List AC)) (k : Nat) (cells : List Value), idxParts k qs xs = true → cellssOf fr sz xs = some css →
    cells.length = (k + xs.length) * sz → (∀ (j : Nat) x, css[j]? = some x → x.length = sz) ∧ css.length = xs.length ∧
      ∃ l : List Value, Instr.fill (fun i => some (i * sz, sz)) cells.toArray (qs.map fun p => (p.1, a.eval p.2)) = some (cells.take (k * sz) ++ l).toArray ∧ RCs V O l css.flatten
  | [], [], css, k, cells, _, h, hl => by
    simp [cellssOf] at h; subst h
    refine ⟨fun j x hx => by simp at hx, rfl, [], ?_, RCs.nil⟩
    have : cells.take (k * sz) = cells := List.take_of_length_le (by simp at hl; omega)
    simp [Instr.fill, this]
  | (i, p) :: qs, x :: xs, css, k, cells, hi, h, hl => by
    simp only [idxParts, Bool.and_eq_true, beq_iff_eq] at hi
    obtain ⟨⟨rfl, hx⟩, hr⟩ := hi
    have ex := xeq_eval hf hx
    unfold cellssOf at h
    split at h
    · rename_i ds rest h1 h2
      split at h
      · rename_i hds
        simp only [Option.some.injEq] at h; subst h
        have hc := cellsOf_sound ex h1
        have hcl : (a.eval p).cells.size = sz := by
          have := hc.1
          rw [Array.length_toList] at this
          omega
        have hmul : (i + 1 + xs.length) * sz = i * sz + sz + xs.length * sz := by rw [Nat.add_mul, Nat.add_mul, Nat.one_mul]
        have hlen : cells.length = i * sz + sz + xs.length * sz := by
          rw [hl, List.length_cons, ← hmul]; congr 1; omega
        have hput := fold_put (a.eval p).cells.toList (i * sz) cells.toArray (by simp; omega)
        simp only [List.toList_toArray, Array.length_toList, hcl] at hput
        obtain ⟨q1, q2, l, q3, q4⟩ := fill_seq hf sz qs xs rest (i + 1) (cells.take (i * sz) ++ (a.eval p).cells.toList ++ cells.drop (i * sz + sz)) hr h2
          (by simp [hcl]; rw [hmul]; omega)
        refine ⟨fun j y hy => ?_, by simp [q2], (a.eval p).cells.toList ++ l, ?_, ?_⟩
        · cases j with
          | zero => simp at hy; subst hy; exact hds
          | succ j => exact q1 j y (by simpa using hy)
        · simp only [List.map_cons, Instr.fill]
          rw [if_neg (by simp [hcl]; omega)]
          have harr : ((a.eval p).cells.zipIdx.foldl (fun cs x => cs.setIfInBounds (i * sz + x.2) x.1) cells.toArray) = (cells.take (i * sz) ++ (a.eval p).cells.toList ++ cells.drop (i * sz + sz)).toArray := by
            apply Array.ext'
            rw [← hput, ← Array.foldl_toList, Array.toList_zipIdx]
          rw [harr, q3]
          congr 2
          have ht : (i + 1) * sz = (cells.take (i * sz) ++ (a.eval p).cells.toList).length := by
            simp [hcl]; rw [Nat.add_mul, Nat.one_mul]; omega
          rw [ht, List.take_left, List.append_assoc]
        · rw [List.flatten_cons]
          exact hc.append q4
      · cases h
    · cases h
  | [], _ :: _, css, k, cells, hi, _, _ => by simp [idxParts] at hi
  | _ :: _, [], css, k, cells, hi, _, _ => by simp [idxParts] at hi
theorem s_bsl (hw : WR bs V O own dom w H rm) (hf : FRn n V O a fr) (hd : ¬ dom nm) {T sz : Nat} {xs : List X} (hc : chk P o (.bsl T sz xs) = true) {css : List (List AC)} (h : cellssOf fr sz xs = some css) :
    Makes P bs o a w V O dom nm rm (.w (.o (.ow nm))) (hupd nm (some (.arr T sz css)) H) := by
  simp only [chk] at hc
  split at hc
  · rename_i t len qs hop
    simp only [Bool.and_eq_true, beq_iff_eq, decide_eq_true_eq, Bool.or_eq_true] at hc
    obtain ⟨⟨⟨⟨⟨⟨he, hsz⟩, rfl⟩, hq⟩, hlim⟩, hlim2⟩, hzero⟩ := hc
    have hu := telem_eq he
    have key : ∀ zc : Array Value, zc.size = xs.length * sz → ∃ l : List Value, Instr.fill (fun i => some (i * sz, sz)) zc (qs.toList.map fun p => (p.1, a.eval p.2)) = some l.toArray ∧ RCs V O l css.flatten ∧ (∀ (j : Nat) x, css[j]? = some x → x.length = sz) ∧ css.length = xs.length := by
      intro zc hzc
      obtain ⟨q1, q2, l, q3, q4⟩ := fill_seq hf sz qs.toList xs css 0 zc.toList hq h (by simp [hzc])
      refine ⟨l, ?_, q4, q1, q2⟩
      simpa using q3
    have hO := updO_le (O := O) (k := nm) (v := .slice (some ⟨w.heap.size, 0, none⟩) xs.length xs.length) (fun u e => hd (hw.domO _ _ e))
    have fin : ∀ l : List Value, RCs V O l css.flatten → (∀ (j : Nat) x, css[j]? = some x → x.length = sz) → css.length = xs.length →
        (execOp a.eval o).run P w = .ok (.value (.slice (some ⟨w.heap.size, 0, none⟩) xs.length xs.length)) (w.alloc (.cells l.toArray T)) → Makes P bs o a w V O dom nm rm (.w (.o (.ow nm))) (hupd nm (some (.arr T sz css)) H) := by
      intro l hl hs hcl hrun
      refine makes_new hw hd hrun ⟨⟨updO_self _ _ _, rfl⟩, fun _ => rfl⟩ ⟨hs, .inr ⟨w.heap.size, xs.length, l, [], ?_, updN_self _ _ _, ?_, by omega, by omega, ?_, hl.mono (Vw.le_refl _) hO⟩⟩
      · rw [updO_self, hcl]
      · rw [heap_push_new]; simp
      · rw [hl.1, flatten_sized sz hs, hcl]; simp
    by_cases h0 : xs.length * sz = 0
    · obtain ⟨l, k1, k2, k3, k4⟩ := key #[] (by simp [h0])
      refine fin l k2 k3 k4 ?_
      simp [execOp, hop, Instr.buildSlice, run_underlying hu, run_tsize hsz, h0, k1, newRow, Array.toList_map, Array.range_zero']
    · have hlim' : ¬ (16777216 < xs.length * sz) := by omega
      have hne : xs.length ≠ 0 := by intro e; simp [e] at h0
      have hz : ∃ i z, P.info? T = some i ∧ i.zero = some z ∧ z.cells.size = sz := by
        rcases hzero with e | e
        · exact absurd e hne
        · split at e
          · rename_i i hi
            split at e
            · rename_i z hz
              simp only [Bool.and_eq_true, beq_iff_eq] at e
              exact ⟨i, z, hi, hz, e.1⟩
            · cases e
          · cases e
      obtain ⟨i, z, hi, hzz, hzs⟩ := hz
      obtain ⟨l, k1, k2, k3, k4⟩ := key ((Array.range (xs.length * sz)).map (z.cells[· % z.cells.size]!)) (by simp)
      refine fin l k2 k3 k4 ?_
      simp [execOp, hop, Instr.buildSlice, run_underlying hu, run_tsize hsz, h0, hlim', zeroValue, typeInfo, hi, hzz, k1, newRow, Array.toList_map]
  · cases hc
theorem s_bsl0 (hw : WR bs V O own dom w H rm) (hf : FRn n V O a fr) (hd : ¬ dom nm) {T sz : Nat} (hc : chk P o (.bsl0 T sz) = true) :
    Makes P bs o a w V O dom nm rm (S sz []) (hupd nm (some (.arr T sz [])) H) := by
  obtain ⟨nx, w', V', O', own', h1, h2, h3, h4, h5, h6⟩ := s_bsl hw hf hd (T := T) (sz := sz) (xs := []) (css := []) hc rfl
  refine ⟨nx, w', V', O', own', ?_, fun e => absurd (h2 e) (by simp), h3, h4, h5, h6⟩
  rcases h1 with e | ⟨v, rfl, h7⟩
  · exact absurd (h2 e) (by simp)
  · refine .inr ⟨v, rfl, ?_⟩
    have hO : O' nm = some v := h7.1.1
    obtain ⟨_, hob⟩ := h6.obs nm (.arr T sz []) (by simp [hupd])
    rcases hob with ⟨_, A, g1⟩ | ⟨b, cap, l, m, g1, g2, g3, g4, g5, _⟩
    · rw [hO] at g1; cases g1
      exact ⟨RF.sl (b := 0) (off := 0) (fun _ _ => undef) rfl (Nat.le_refl _) (by omega) (fun h => absurd h (by omega)) (fun j y hy => by simp at hy) (fun j y i f hy => by simp at hy) (fun j y i f hy => by simp at hy), fun _ => rfl⟩
    · rw [hO] at g1; cases g1
      exact ⟨RF.sl (b := 0) (off := 0) (fun _ _ => undef) rfl g4 g5 (fun h => absurd h (by simp)) (fun j y hy => by simp at hy) (fun j y i f hy => by simp at hy) (fun j y i f hy => by simp at hy), fun _ => rfl⟩
theorem made_cells (zs : List Value) (hz : 0 < zs.length) (ho : ∀ x, x ∈ zs → x.oneCell' = true) : ∀ m c : Nat, m ≤ c → RCs V O ((madeCells zs.toArray (c * zs.length)).toList.take (m * zs.length)) (List.replicate m (zs.map ofV)).flatten := by
  intro m c hmc
  have hsz : ∀ (j : Nat) x, (List.replicate m (zs.map ofV))[j]? = some x → x.length = zs.length := by
    intro j x hx
    rw [List.getElem?_replicate] at hx
    split at hx
    · simp only [Option.some.injEq] at hx; subst hx; simp
    · cases hx
  have hfl := flatten_sized zs.length hsz
  have hmul : m * zs.length ≤ c * zs.length := Nat.mul_le_mul_right _ hmc
  refine ⟨by rw [hfl, List.length_take, show (madeCells zs.toArray (c * zs.length)).toList.length = c * zs.length by simp [size_madeCells], List.length_replicate]; omega, fun i x d h1 h2 => ?_⟩
  rw [List.getElem?_take] at h1
  split at h1
  · rename_i hi
    have hq : i / zs.length < m := Nat.div_lt_of_lt_mul (by rw [Nat.mul_comm]; exact hi)
    have hr : i % zs.length < zs.length := Nat.mod_lt _ hz
    have hat := flatten_at zs.length hsz (i / zs.length) (zs.map ofV) (by rw [List.getElem?_replicate, if_pos hq])
    have h3 : (List.replicate m (zs.map ofV)).flatten[i]? = (zs.map ofV)[i % zs.length]? := by
      have hd : i / zs.length * zs.length + i % zs.length = i := by rw [Nat.mul_comm]; exact Nat.div_add_mod i zs.length
      have := congrArg (fun l => l[i % zs.length]?) hat
      simp only [List.getElem?_take, if_pos hr, List.getElem?_drop, hd] at this
      exact this
    rw [h3, List.getElem?_map] at h2
    have h4 : (madeCells zs.toArray (c * zs.length)).toList[i]? = zs[i % zs.length]? := by
      rw [Array.getElem?_toList]
      unfold madeCells
      simp only [Array.getElem?_map, Array.getElem?_range, List.size_toArray]
      rw [if_pos (by omega)]
      simp only [Option.map_some, List.getElem!_toArray]
      rw [List.getElem!_eq_getElem?_getD, List.getElem?_eq_getElem hr]; rfl
    rw [h4] at h1
    rw [h1] at h2
    simp only [Option.map_some, Option.some.injEq] at h2
    subst h2
    have := ho x (List.mem_of_getElem? h1)
    exact ⟨RC_ofV V O this, this⟩
  · cases h1
theorem s_mksl (hw : WR bs V O own dom w H rm) (hf : FRn n V O a fr) (hd : ¬ dom nm) {T sz bytes : Nat} {zs : List Value} {l c : X} (hc : chk P o (.mksl T sz bytes zs l c) = true) {m k : Int}
    (hl : ev fr l = I m) (hk : ev fr c = I k) (h0 : 0 ≤ m) (hmk : m ≤ k) (hb : k * bytes ≤ 140737488355328) (h62 : k ≤ 4611686018427387904) :
    Makes P bs o a w V O dom nm rm (.w (.o (.ow nm))) (hupd nm (some (.arr T sz (List.replicate m.toNat (zs.map ofV)))) H) := by
  simp only [chk] at hc
  split at hc
  · rename_i t l' c' hop
    simp only [Bool.and_eq_true, beq_iff_eq, decide_eq_true_eq] at hc
    obtain ⟨⟨⟨⟨⟨⟨⟨⟨h1, h2⟩, he⟩, hsz⟩, hby⟩, hz⟩, rfl⟩, hs0⟩, hb0⟩ := hc
    obtain ⟨i, z, hi, hzz, e, ho⟩ := zeroB_ok hz
    have el := xeq_eval hf h1
    have ec := xeq_eval hf h2
    rw [hl] at el; rw [hk] at ec
    have hu := telem_eq he
    have hisz : i.size = zs.length := by
      unfold tsize at hsz; rw [hi] at hsz; simpa using hsz
    have hiby : i.bytes = bytes := by rw [hi] at hby; simpa using hby
    have hr := run_make (P := P) w t T i z hu hi hzz .i64 .i64 m k h0 hmk (by rw [hiby, Int.mul_comm]; omega) (by omega)
    have hzc : z.cells = zs.toArray := by rw [← e]
    rw [hisz, hzc] at hr
    have hrun : (execOp a.eval o).run P w = .ok (.value (.slice (some ⟨w.heap.size, 0, none⟩) m.toNat k.toNat)) (w.alloc (.cells (madeCells zs.toArray (k.toNat * zs.length)) T)) := by
      simp only [execOp, hop, v_int el, v_int ec, Sem.run_bind, hr]; rfl
    have hO := updO_le (O := O) (k := nm) (v := .slice (some ⟨w.heap.size, 0, none⟩) m.toNat k.toNat) (fun u e => hd (hw.domO _ _ e))
    have hmk' : m.toNat ≤ k.toNat := by omega
    refine makes_new hw hd hrun ⟨⟨updO_self _ _ _, rfl⟩, fun _ => rfl⟩ ⟨fun j x hx => ?_, .inr ⟨w.heap.size, k.toNat, (madeCells zs.toArray (k.toNat * zs.length)).toList.take (m.toNat * zs.length), (madeCells zs.toArray (k.toNat * zs.length)).toList.drop (m.toNat * zs.length), ?_, updN_self _ _ _, ?_, by simpa using hmk', by omega, ?_, ?_⟩⟩
    · rw [List.getElem?_replicate] at hx
      split at hx
      · simp only [Option.some.injEq] at hx; subst hx; simp
      · cases hx
    · rw [updO_self]; simp
    · rw [heap_push_new]; simp
    · simp only [List.length_take, List.length_drop, Array.length_toList, size_madeCells]
      omega
    · exact (made_cells zs hs0 ho m.toNat k.toNat hmk').mono (Vw.le_refl _) hO
  · cases hc
end
end Av
end Go.Proofs.Ytdboofnogabefaa
