/- Texts of the layer, joined. -/
import Derived.Test.YtdboofnogabefaaZA
import Derived.Test.YtdboofnogabefaaD1
import Derived.Test.YtdboofnogabefaaProg
import Derived.KernelRfl
import Derived.Test.YtdboofnogabefaaZC
set_option linter.unusedVariables false
set_option linter.unusedSimpArgs false
namespace Go.Proofs.Ytdboofnogabefaa
namespace Av
open Go.RowKit
def SeenB (l : List Vo) : Prop := l.length ≤ 80 ∧ ∀ v, v ∈ l → VoteOk v
theorem SeenB.fit {l : List Vo} (h : SeenB l) : FitVs l := ⟨Nat.le_trans h.1 (by decide), fun v hv => Nat.le_trans (h.2 v hv).2.2.2 (by decide)⟩
theorem SeenB.lt {l : List Vo} (h : SeenB l) : l.length < LIM := Nat.lt_of_le_of_lt h.1 (by decide)
end Av
end Go.Proofs.Ytdboofnogabefaa

namespace Go.Proofs.Ytdboofnogabefaa
namespace Av
end Av
end Go.Proofs.Ytdboofnogabefaa

namespace Go.Proofs.Ytdboofnogabefaa
namespace Av
open Go.RowKit
end Av
end Go.Proofs.Ytdboofnogabefaa

namespace Go.Proofs.Ytdboofnogabefaa
namespace Av
open Go.RowKit
section
variable {P : Program} {g : Nat} {S : MSpec} {fr : Env} {H : Hp} {nm nx rm rm' lim k : Nat} {K : KV} {xs : List (X × List (Option Nat))} {res : List Rs} {post : AV → List (Option Ob) → Prop}
end
theorem allFromM_cl {l : List Vo} {N : Nat} : ∀ {r : List Vo} {out : List (List It)}, (∀ v, v ∈ r → v.c.length ≤ N) → (∀ c, c ∈ out → c.length ≤ N) → ∀ c, c ∈ allFromM l r out → c.length ≤ N
  | [], _, _, ho, c, hc => ho c hc
  | v :: r, out, hr, ho, c, hc => by
    refine allFromM_cl (fun u hu => hr u (List.mem_cons_of_mem _ hu)) (fun d hd => ?_) c hc
    split at hd
    · rcases List.mem_append.1 hd with g | g
      · exact ho d g
      · rw [List.mem_singleton.1 g]; exact hr v List.mem_cons_self
    · exact ho d hd
theorem longer_len {N : Nat} : ∀ (L : List (List It)) (o : List It), (∀ c, c ∈ L → c.length ≤ N) → o.length ≤ N → (L.foldl longer o).length ≤ N
  | [], o, _, ho => ho
  | c :: L, o, hL, ho => by
    refine longer_len L _ (fun d hd => hL d (List.mem_cons_of_mem _ hd)) ?_
    unfold longer
    split
    · exact hL c List.mem_cons_self
    · exact ho
theorem tipM_len {l : List Vo} {N : Nat} (h : ∀ v, v ∈ l → v.c.length ≤ N) : (tipM l).length ≤ N := by
  refine longer_len _ _ (fun c hc => ?_) (Nat.zero_le _)
  refine allFromM_cl (l := l) h (fun d hd => ?_) c hc
  rw [List.mem_singleton.1 hd]; exact Nat.zero_le _
attribute [local irreducible] Valid ValidM
end Av
end Go.Proofs.Ytdboofnogabefaa

