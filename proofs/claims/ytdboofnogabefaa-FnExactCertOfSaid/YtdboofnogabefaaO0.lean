/- Contracts of functions that hand back memory of their own: chains. -/
import Derived.Test.YtdboofnogabefaaFA
set_option linter.unusedVariables false
set_option linter.unusedSimpArgs false
namespace Go.Proofs.Ytdboofnogabefaa
namespace Av
open Go.RowKit
/-- How many names a copy may take. -/
@[irreducible] def NB : Nat := 4194304
theorem NB_eq : NB = 4194304 := by unfold NB; rfl
noncomputable def S_laws_toItemS_o : MSpec := mkN (α := List It) (fun c => [one (chF c)]) (fun c => c.length ≤ LIM) (fun c r obs' => r = ow0 ∧ obs' = [some (itO c)]) 0
  (fun c _ => ⟨ow0, _, ⟨rfl, rfl⟩, okw Nat.one_pos, ok_sg (arA_ok _)⟩) (fun b r obs' ⟨_, h⟩ => by rw [h]; simp)
theorem K_laws_toItemS_o {c : List It} {r : AV} {obs' : List (Option Ob)} (h : S_laws_toItemS_o.post [one (chF c)] [] r obs') : r = ow0 ∧ obs' = [some (itO c)] :=
  mkN_post (enc := fun b => [one (chF b)]) (a := c) (fun _ _ h => by simpa only [List.cons.injEq, and_true, one_inj, chF_inj] using h) h
/-- A vote whose chain is the array k. -/
def voK (v : Vo) (k : Nat) : List AC := [.c (fI v.n), .ow k]
noncomputable def S_laws_toVote_o : MSpec := mkN (α := Vo) (fun v => [agg (voF v)]) FitV (fun v r obs' => r = .w (.g (voK v 0)) ∧ obs' = [some (itO v.c)]) 0
  (fun v _ => ⟨_, _, ⟨rfl, rfl⟩, by simp [okV, okW, okC, voK], ok_sg (arA_ok _)⟩) (fun b r obs' ⟨_, h⟩ => by rw [h]; simp)
theorem K_laws_toVote_o {v : Vo} {r : AV} {obs' : List (Option Ob)} (h : S_laws_toVote_o.post [agg (voF v)] [] r obs') : r = .w (.g (voK v 0)) ∧ obs' = [some (itO v.c)] :=
  mkN_post (enc := fun b => [agg (voF b)]) (a := v) (fun _ _ h => by simpa only [List.cons.injEq, and_true, agg_inj, voF_inj] using h) h
/-- Votes whose chains are the arrays f 0, f 1, .. -/
def vosK (f : Nat → Nat) (l : List Vo) : List (List AC) := l.mapIdx fun i v => voK v (f i)
abbrev vosO (f : Nat → Nat) (l : List Vo) : Ob := .arr ty_impl_Vote 2 (vosK f l)
def vosObs (l : List Vo) : List (Option Ob) := some (vosO (· + 1) l) :: l.map fun v => some (itO v.c)
theorem vosObs_len (l : List Vo) : (vosObs l).length = l.length + 1 := by simp [vosObs]
theorem vosObs_ok (l : List Vo) : ∀ (j : Nat) o, (vosObs l)[j]? = some (some o) → okOb (· < (vosObs l).length) o := by
  intro j o h
  rw [vosObs_len]
  cases j with
  | zero =>
    simp only [vosObs, List.getElem?_cons_zero, Option.some.injEq] at h
    subst h
    intro x hx c hc
    obtain ⟨i, hi⟩ := List.mem_iff_getElem?.1 hx
    simp only [vosK, List.getElem?_mapIdx, Option.map_eq_some_iff] at hi
    obtain ⟨v, hv, rfl⟩ := hi
    have hlt := (List.getElem?_eq_some_iff.1 hv).1
    simp only [voK, List.mem_cons, List.not_mem_nil, or_false] at hc
    rcases hc with rfl | rfl
    · trivial
    · show i + 1 < l.length + 1; omega
  | succ j =>
    simp only [vosObs, List.getElem?_cons_succ, List.getElem?_map, Option.map_eq_some_iff] at h
    obtain ⟨v, _, h⟩ := h
    cases h
    exact arA_ok _
/-- Data in; more objects out than sixteen. -/
def mkNS {α : Type} (st : Nat) (enc : α → List AV) (p : α → Prop) (R : α → AV → List (Option Ob) → Prop) (cost : Nat)
    (hinh : ∀ a, p a → ∃ r obs', R a r obs' ∧ okV (· < obs'.length) r ∧ ∀ (j : Nat) o, obs'[j]? = some (some o) → okOb (· < obs'.length) o) (hlen : ∀ a r obs', R a r obs' → obs'.length ≤ 16 + st) : MSpec where
  pre args obs := ∃ a, args = enc a ∧ obs = [] ∧ p a
  post args obs r obs' := ∃ a, args = enc a ∧ obs = [] ∧ R a r obs'
  inh := fun args obs ⟨a, h, _, hp⟩ => by
    obtain ⟨r, obs', h3, h4, h5⟩ := hinh a hp
    exact ⟨r, obs', ⟨a, h, by assumption, h3⟩, h4, h5⟩
  cost := cost
  st := st
  hlen := fun args obs r obs' ⟨a, h1, h2, h3⟩ => by rw [h2]; exact ⟨Nat.zero_le _, by have := hlen a r obs' h3; simpa using this⟩
  nk := true
  hnk := fun _ args obs ⟨a, _, h, _⟩ => h
theorem mkNS_post {α : Type} {st : Nat} {enc : α → List AV} {p : α → Prop} {R : α → AV → List (Option Ob) → Prop} {cost : Nat} {hinh hlen} (hinj : ∀ a b, enc a = enc b → a = b) {a : α} {r : AV} {obs' : List (Option Ob)}
    (h : (mkNS st enc p R cost hinh hlen).post (enc a) [] r obs') : R a r obs' := by
  obtain ⟨b, h1, _, h3⟩ := h
  rw [hinj _ _ h1]; exact h3
noncomputable def S_laws_toVoteS_o : MSpec := mkNS (α := List Vo) NB (fun l => [one (vsF l)]) SmVs (fun l r obs' => l.length ≤ SM ∧ r = ow0 ∧ obs' = vosObs l) 0
  (fun l h => ⟨_, _, ⟨h.1, rfl, rfl⟩, okw (by rw [vosObs_len]; omega), vosObs_ok l⟩)
  (fun b r obs' h => by
    obtain ⟨h, _, rfl⟩ := h
    rw [vosObs_len, NB_eq]; simp only [SM] at h; omega)
theorem K_laws_toVoteS_o {l : List Vo} {r : AV} {obs' : List (Option Ob)} (h : S_laws_toVoteS_o.post [one (vsF l)] [] r obs') : r = ow0 ∧ obs' = vosObs l :=
  (mkNS_post (enc := fun b : List Vo => [one (vsF b)]) (a := l) (fun _ _ h => by simpa only [List.cons.injEq, and_true, one_inj, vsF_inj] using h) h).2
section
variable {fr : Env} {H : Hp} {nx rm' lim : Nat} {res : List Rs} {post : AV → List (Option Ob) → Prop}
theorem finM_vo {v : Vo} {k : Nat} (hrm : rm' ≤ lim) (hk : H k = some (itO v.c)) (hres : resM [k] fr H res [.g (voK v k)]) (hpost : post (.w (.g (voK v 0))) [some (itO v.c)]) :
    rm' ≤ lim ∧ ∃ (ks : List Nat) (az : List AW) (r : AV) (obs' : List (Option Ob)), resM ks fr H res az ∧ resV az = r.ren (nmap ks nx) ∧ post r obs' ∧
      ks.Nodup ∧ (∀ i, i < 0 → ks[i]? = some i) ∧ obs'.length = ks.length ∧
      ∀ (i k : Nat), ks[i]? = some k → (∃ ob : Ob, obs'[i]? = some (some ob) ∧ H k = some (ob.ren (nmap ks nx))) ∨ (obs'[i]? = some none ∧ H k = none) := by
  refine ⟨hrm, [k], _, _, _, hres, rfl, hpost, by simp, fun i hi => by omega, rfl, fun i k' h => ?_⟩
  left
  match i, h with
  | 0, h => cases h; exact ⟨_, rfl, by rw [arr_ren]; exact hk⟩
  | i + 1, h => simp at h
end
end Av
end Go.Proofs.Ytdboofnogabefaa
/- Contracts of the marks on chains. -/
namespace Go.Proofs.Ytdboofnogabefaa
namespace Av
open Go.RowKit
/-- n items, marked from k on. -/
def mkC : Nat → Int → List It
  | 0, _ => []
  | n + 1, k => ⟨k, ⟨k + 1, k + 2, k + 3⟩⟩ :: mkC n (k + 4)
theorem mkC_len : ∀ (n : Nat) (k : Int), (mkC n k).length = n
  | 0, _ => rfl
  | n + 1, k => by simp [mkC, mkC_len n]
theorem mkC_snoc : ∀ (n : Nat) (k : Int), mkC (n + 1) k = mkC n k ++ [⟨k + 4 * n, ⟨k + 4 * n + 1, k + 4 * n + 2, k + 4 * n + 3⟩⟩]
  | 0, k => by simp [mkC]
  | n + 1, k => by
    rw [mkC, mkC_snoc n (k + 4), mkC]
    simp only [List.cons_append, List.cons.injEq, true_and, List.append_cancel_left_eq, It.mk.injEq, Pa.mk.injEq, and_true]
    refine ⟨?_, ?_, ?_, ?_⟩ <;> omega
def MK : Int := 1152921504606846976
def mkEnc : Option (List It) × Int → List AV
  | (none, k) => [one (chF []), I k]
  | (some _, k) => [ow0, I k]
def mkOb : Option (List It) × Int → List Ob
  | (none, _) => []
  | (some c, _) => [itO c]
def mkR' : Option (List It) × Int → AV → List (Option Ob) → Prop
  | (none, k), r, obs' => r = I k ∧ obs' = []
  | (some c, k), r, obs' => r = I (k + 4 * c.length) ∧ obs' = [some (itO (mkC c.length k))]
noncomputable def S_laws_markItemS_o : MSpec := mkM (α := Option (List It) × Int) mkEnc mkOb (fun a => (∀ c, a.1 = some c → c.length ≤ SM) ∧ 0 ≤ a.2 ∧ a.2 ≤ MK) mkR' 0
  (fun a _ => by
    obtain ⟨_ | c, k⟩ := a
    · exact ⟨_, _, ⟨rfl, rfl⟩, trivial, fun j o h => by simp at h⟩
    · exact ⟨_, _, ⟨rfl, rfl⟩, trivial, ok_sg (arA_ok _)⟩)
  (fun a r obs' h => by obtain ⟨_ | c, k⟩ := a <;> obtain ⟨_, rfl⟩ := h <;> simp [mkOb])
theorem K_mark_o {c : List It} {k : Int} {r : AV} {obs' : List (Option Ob)} (h : S_laws_markItemS_o.post [ow0, I k] [itO c] r obs') : r = I (k + 4 * c.length) ∧ obs' = [some (itO (mkC c.length k))] := by
  obtain ⟨⟨_ | d, m⟩, h1, h2, h3⟩ := h
  · simp [mkOb] at h2
  · have e := itO_inj h2
    subst e
    have e2 : k = m := by
      have := (List.cons.inj (List.cons.inj h1).2).1
      simpa using this
    subst e2; exact h3
section
variable {fr : Env} {H : Hp} {nx rm' lim : Nat} {res : List Rs} {post : AV → List (Option Ob) → Prop}
theorem finM_s0 {n : Int} (hrm : rm' ≤ lim) (hres : resM [] fr H res [.o (.c (fI n))]) (hpost : post (I n) []) : rm' ≤ lim ∧ ∃ (ks : List Nat) (az : List AW) (r : AV) (obs' : List (Option Ob)), resM ks fr H res az ∧ resV az = r.ren (nmap ks nx) ∧ post r obs' ∧
      ks.Nodup ∧ (∀ i, i < 0 → ks[i]? = some i) ∧ obs'.length = ks.length ∧
      ∀ (i k : Nat), ks[i]? = some k → (∃ ob : Ob, obs'[i]? = some (some ob) ∧ H k = some (ob.ren (nmap ks nx))) ∨ (obs'[i]? = some none ∧ H k = none) :=
  ⟨hrm, [], _, I n, _, hres, rfl, hpost, by simp, fun i hi => by omega, rfl, fun i k h => by simp at h⟩
theorem finM_s1 {α : Type} {F : α → List FV} {l : List α} {T sz : Nat} {n : Int} (hrm : rm' ≤ lim) (hk : H 0 = some (.arr T sz (arA F l))) (hres : resM [0] fr H res [.o (.c (fI n))]) (hpost : post (I n) [some (.arr T sz (arA F l))]) : rm' ≤ lim ∧ ∃ (ks : List Nat) (az : List AW) (r : AV) (obs' : List (Option Ob)), resM ks fr H res az ∧ resV az = r.ren (nmap ks nx) ∧ post r obs' ∧
      ks.Nodup ∧ (∀ i, i < 1 → ks[i]? = some i) ∧ obs'.length = ks.length ∧
      ∀ (i k : Nat), ks[i]? = some k → (∃ ob : Ob, obs'[i]? = some (some ob) ∧ H k = some (ob.ren (nmap ks nx))) ∨ (obs'[i]? = some none ∧ H k = none) := by
  refine ⟨hrm, [0], _, I n, _, hres, rfl, hpost, by simp, fun i hi => ?_, rfl, fun i k' h => ?_⟩
  · have : i = 0 := by omega
    subst this; rfl
  · match i, h with
    | 0, h => cases h; exact .inl ⟨_, rfl, by rw [arr_ren]; exact hk⟩
    | i + 1, h => simp at h
end
end Av
end Go.Proofs.Ytdboofnogabefaa
/- The contract of 'the marks stand' on chains. -/
namespace Go.Proofs.Ytdboofnogabefaa
namespace Av
open Go.RowKit
theorem mkC_at : ∀ (n : Nat) (k : Int) (i : Nat), i < n → (mkC n k)[i]? = some ⟨k + 4 * i, ⟨k + 4 * i + 1, k + 4 * i + 2, k + 4 * i + 3⟩⟩
  | n + 1, k, 0, _ => by simp [mkC]
  | n + 1, k, i + 1, h => by
    rw [mkC, List.getElem?_cons_succ, mkC_at n (k + 4) i (by omega)]
    simp only [Option.some.injEq, It.mk.injEq, Pa.mk.injEq]
    refine ⟨?_, ?_, ?_, ?_⟩ <;> omega
  | 0, _, _, h => absurd h (Nat.not_lt_zero _)
noncomputable def S_laws_heldItemS : FSpec := iF (α := Nat × Int) (fun a => [one (chF (mkC a.1 a.2)), I a.2]) (fun a => a.1 ≤ SM ∧ 0 ≤ a.2 ∧ a.2 ≤ MK) (fun a => a.2 + 4 * a.1) (fun _ => rfl)
theorem encHeld_inj (a b : Nat × Int) (h : [one (chF (mkC a.1 a.2)), I a.2] = [one (chF (mkC b.1 b.2)), I b.2]) : a = b := by
  obtain ⟨n, k⟩ := a; obtain ⟨m, j⟩ := b
  have h1 := chF_inj.1 (one_inj.1 (List.cons.inj h).1)
  have h2 := aI_inj.1 (List.cons.inj (List.cons.inj h).2).1
  have h3 := congrArg List.length h1
  rw [mkC_len, mkC_len] at h3
  dsimp only at h2 h3
  rw [h2, h3]
theorem K_laws_heldItemS {n : Nat} {k : Int} {r : AV} (h : S_laws_heldItemS.post [one (chF (mkC n k)), I k] r) : r = I (k + 4 * n) :=
  iF_post (hcl := fun _ => rfl) (a := (n, k)) encHeld_inj h
end Av
end Go.Proofs.Ytdboofnogabefaa
/- Contracts of the marks on votes. -/
namespace Go.Proofs.Ytdboofnogabefaa
namespace Av
open Go.RowKit
def SmVs2 (l : List Vo) : Prop := l.length ≤ 2097152 ∧ ∀ v, v ∈ l → v.c.length ≤ SM
theorem SmVs.two {l : List Vo} (h : SmVs l) : SmVs2 l := ⟨Nat.le_trans h.1 (by decide), h.2⟩
def endV : List Vo → Int → Int
  | [], k => k
  | v :: r, k => endV r (k + 1 + 4 * v.c.length)
/-- Votes, marked from k on. -/
def mkVs : List Vo → Int → List Vo
  | [], _ => []
  | v :: r, k => ⟨k, mkC v.c.length (k + 1)⟩ :: mkVs r (k + 1 + 4 * v.c.length)
theorem mkVs_len : ∀ (l : List Vo) (k : Int), (mkVs l k).length = l.length
  | [], _ => rfl
  | v :: r, k => by simp [mkVs, mkVs_len r]
theorem endV_app : ∀ (a b : List Vo) (k : Int), endV (a ++ b) k = endV b (endV a k)
  | [], b, k => rfl
  | v :: r, b, k => by simp only [List.cons_append, endV, endV_app r b]
theorem mkVs_app : ∀ (a b : List Vo) (k : Int), mkVs (a ++ b) k = mkVs a k ++ mkVs b (endV a k)
  | [], b, k => rfl
  | v :: r, b, k => by simp only [List.cons_append, mkVs, endV, mkVs_app r b]
theorem endV_bounds : ∀ (l : List Vo) (k : Int), (∀ v, v ∈ l → v.c.length ≤ SM) → k ≤ endV l k ∧ endV l k ≤ k + l.length * 4194305
  | [], k, _ => by simp [endV]
  | v :: r, k, h => by
    have h1 := endV_bounds r (k + 1 + 4 * v.c.length) fun u hu => h u (List.mem_cons_of_mem _ hu)
    have h2 := h v (List.mem_cons_self ..)
    simp only [SM] at h2
    simp only [endV, List.length_cons]
    omega
theorem endV_take {l : List Vo} {i : Nat} {x : Vo} (hx : l[i]? = some x) (k : Int) : endV (l.take (i + 1)) k = endV (l.take i) k + 1 + 4 * x.c.length := by
  rw [List.take_add_one, hx, endV_app]; rfl
theorem mkVs_take {l : List Vo} {i : Nat} {x : Vo} (hx : l[i]? = some x) (k : Int) : mkVs (l.take (i + 1)) k = mkVs (l.take i) k ++ [⟨endV (l.take i) k, mkC x.c.length (endV (l.take i) k + 1)⟩] := by
  rw [List.take_add_one, hx, mkVs_app]; rfl
/-- The first i votes are marked. -/
def partV (l : List Vo) (k : Int) (i : Nat) : List Vo := mkVs (l.take i) k ++ l.drop i
theorem partV_len {l : List Vo} {k : Int} {i : Nat} (h : i ≤ l.length) : (partV l k i).length = l.length := by
  unfold partV; rw [List.length_append, mkVs_len, List.length_take, List.length_drop]; omega
theorem partV_at {l : List Vo} {k : Int} {i : Nat} {x : Vo} (hx : l[i]? = some x) : (partV l k i)[i]? = some x := by
  have hi := (List.getElem?_eq_some_iff.1 hx).1
  unfold partV
  rw [List.getElem?_append_right (by rw [mkVs_len, List.length_take]; omega), mkVs_len, List.length_take, Nat.min_eq_left (Nat.le_of_lt hi), Nat.sub_self, List.getElem?_drop, Nat.add_zero]
  exact hx
theorem partV_step {l : List Vo} {k : Int} {i : Nat} {x : Vo} (hx : l[i]? = some x) : (partV l k i).set i ⟨endV (l.take i) k, mkC x.c.length (endV (l.take i) k + 1)⟩ = partV l k (i + 1) := by
  have hi := (List.getElem?_eq_some_iff.1 hx).1
  have hl : (mkVs (l.take i) k).length = i := by rw [mkVs_len, List.length_take]; omega
  unfold partV
  rw [mkVs_take hx, List.append_assoc, List.set_append_right _ _ (by omega), hl, Nat.sub_self]
  congr 1
  rw [List.drop_eq_getElem_cons hi]; rfl
theorem partV_zero (l : List Vo) (k : Int) : partV l k 0 = l := by simp [partV, mkVs]
theorem partV_end (l : List Vo) (k : Int) : partV l k l.length = mkVs l k := by simp [partV]
section
variable {P : Program} {g : Nat} {S : MSpec} {fr : Env} {H : Hp} {nm rm : Nat} {K : KV} {xs : List (X × List (Option Nat))}
/-- An array and a number in; the array written, and a number out. -/
theorem mq_mark {α : Type} {F : α → List FV} {k T sz : Nat} {l l' : List α} {n m : Int} (hv : ValidM P g S) (hl : rm + S.cost ≤ LIM) (hk : H k = some (.arr T sz (arA F l))) (ha : nrmArgs fr xs = [.w (.o (.ow k)), I n]) (hpre : S.pre [ow0, I n] [.arr T sz (arA F l)])
    (hpost : ∀ r obs', S.post [ow0, I n] [.arr T sz (arA F l)] r obs' → r = I m ∧ obs' = [some (.arr T sz (arA F l'))])
    (hK : K (I m) (hupd k (some (.arr T sz (arA F l'))) H) (rm + S.cost)) : MQ P nm fr H rm K g S xs := by
  refine ⟨⟨hv, hl, [k], _, [.arr T sz (arA F l)], by simp, rfl, fun i k' h => ?_, ?_, hpre, fun r obs' hp _ _ => ?_⟩⟩
  · cases i with
    | zero => simp at h; subst h; exact ⟨_, rfl, by rw [arr_ren]; exact hk⟩
    | succ i => simp at h
  · rw [ha]
    show [AV.w (.o (.ow (nmapS S.st [k] nm 0))), I n] = _
    rw [nmap_lt (ks := [k]) rfl]
  · obtain ⟨rfl, rfl⟩ := hpost r obs' hp
    show K (I m) (hupd (nmapS S.st [k] nm 0) (some ((Ob.arr T sz (arA F l')).ren _)) H) _
    rw [arr_ren, nmap_lt (ks := [k]) (i := 0) rfl]
    exact hK
end
end Av
end Go.Proofs.Ytdboofnogabefaa
/- The contract of the marks on votes. -/
namespace Go.Proofs.Ytdboofnogabefaa
namespace Av
open Go.RowKit
def vosIn (l : List Vo) : List Ob := vosO (· + 1) l :: l.map fun v => itO v.c
theorem vosIn_inj {l m : List Vo} (h : vosIn l = vosIn m) : l = m := by
  have h1 := (Ob.arr.inj (List.cons.inj h).1).2.2
  have h2 := (List.cons.inj h).2
  apply List.ext_getElem?
  intro j
  have e1 := congrArg (fun z => z[j]?) h1
  have e2 := congrArg (fun z => z[j]?) h2
  simp only [vosK, List.getElem?_mapIdx] at e1
  simp only [List.getElem?_map] at e2
  cases hl : l[j]? with
  | none =>
    cases hm : m[j]? with
    | none => rfl
    | some u => rw [hl, hm] at e2; cases e2
  | some v =>
    cases hm : m[j]? with
    | none => rw [hl, hm] at e2; cases e2
    | some u =>
      rw [hl, hm] at e1 e2
      have a1 := Option.some.inj e1
      have a2 := itO_inj (congrArg (fun z => [z]) (Option.some.inj e2))
      have a3 : v.n = u.n := by
        have := (List.cons.inj a1).1
        simpa using this
      obtain ⟨a, b⟩ := v; obtain ⟨c, d⟩ := u
      dsimp only at a2 a3
      rw [a2, a3]
noncomputable def S_laws_markVoteS_o : MSpec := mkM (α := List Vo × Int) (fun a => [ow0, I a.2]) (fun a => vosIn a.1) (fun a => SmVs2 a.1 ∧ 0 ≤ a.2 ∧ a.2 ≤ 1099511627776) (fun a r obs' => r = I (endV a.1 a.2) ∧ obs' = vosObs (mkVs a.1 a.2)) 0
  (fun a _ => ⟨_, _, ⟨rfl, rfl⟩, trivial, vosObs_ok _⟩)
  (fun a r obs' h => by obtain ⟨_, rfl⟩ := h; rw [vosObs_len, mkVs_len]; simp [vosIn])
theorem K_laws_markVoteS_o {l : List Vo} {k : Int} {r : AV} {obs' : List (Option Ob)} (h : S_laws_markVoteS_o.post [ow0, I k] (vosIn l) r obs') : r = I (endV l k) ∧ obs' = vosObs (mkVs l k) :=
  mkM_post (enc := fun a : List Vo × Int => [ow0, I a.2]) (ob := fun a => vosIn a.1) (a := (l, k)) (fun a b h h' => by
    obtain ⟨x, y⟩ := a; obtain ⟨z, w⟩ := b
    have e1 := vosIn_inj h'
    have e2 := aI_inj.1 (List.cons.inj (List.cons.inj h).2).1
    dsimp only at e1 e2
    rw [e1, e2]) h
end Av
end Go.Proofs.Ytdboofnogabefaa
