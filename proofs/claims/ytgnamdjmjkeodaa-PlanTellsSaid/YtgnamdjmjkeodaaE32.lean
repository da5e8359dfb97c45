/- The engine, part 32: statements whose order is drawn: what they leave alone. -/
import Derived.Test.YtgnamdjmjkeodaaE19
import Derived.Test.YtgnamdjmjkeodaaE31
namespace Go.Proofs.Ytgnamdjmjkeodaa
open Go

section
variable {L : List Nat} {bad : Nat → Bool} {S : St} {P : Program} {ss : Specs} {ops : Array Oper}

theorem fr_draw (hN : Named L bad) (h : Tidy bad S) (hd : ∀ o ∈ ops.toList, ∀ d, o.dst = some d → L.contains d = true) {ps : List Prop} {S' : St} (hr : runDraw P ss ops S.clean = some (ps, S')) :
    Fr L bad S S' ∧ Tidy bad S' := by
  have hc := fr_clean (L := L) h
  unfold runDraw runDraw1 at hr
  have hf := fr_freeze (L := L) (bad := bad) (preOwns ss ops S.clean) S.clean hc.2
  have hc := And.intro (hc.1.trans hf.1) hf.2
  clear hf h
  generalize S.clean.freeze (preOwns ss ops S.clean) = S1 at *
  split at hr
  rename_i ps1 rs hm
  split at hr <;> try cases hr
  split at hr <;> simp only [Option.some.injEq, Prod.mk.injEq, reduceCtorEq] at hr
  obtain ⟨rfl, rfl⟩ := hr
  rename_i qs S' hrun
  obtain ⟨n, h1, h2, h3⟩ := runDm_spec (P := P) (ss := ss) (ops := ops) (S := S1) ops.toList []
  rw [hm] at h1 h3
  obtain ⟨rs1, e1, hl, hat⟩ := runD_spec _ _ _ _ h3
  simp only [List.nil_append] at e1 hat
  subst e1
  have k1 : Fr L bad S1 (stD S1 rs) := by
    refine ⟨rfl, rfl, fun s hs _ => ?_, fun _ _ _ => rfl, fun _ _ env h => ⟨env, h, fun _ _ => rfl⟩⟩
    have : lk rs s = none := lk_none rs s (fun i a hi => by
      have hlt : i < rs.length := by
        rcases Nat.lt_or_ge i rs.length with h | h
        · exact h
        · rw [List.getElem?_eq_none h] at hi; cases hi
      have ho : (ops.toList.take n)[i]? = some ((ops.toList.take n)[i]'(by omega)) := List.getElem?_eq_getElem (by omega)
      obtain ⟨qs', d, r, g1, g2, _⟩ := hat i _ ho
      rw [hi] at g1
      injection g1 with g1
      injection g1 with g1 _
      subst g1
      have := hd _ (List.mem_of_mem_take (List.getElem_mem (by omega))) s (evD_dst g2)
      rw [hs] at this
      cases this)
    simp only [stD, this]
  have k2 : Tidy bad (stD S1 rs) := ⟨hc.2.lock, hc.2.row, hc.2.frame⟩
  have k3 := fr_run hN _ _ _ _ k2 (fun o ho d hdst => hd o (List.mem_of_mem_drop ho) d hdst) hrun
  exact ⟨(hc.1.trans k1).trans k3.1, k3.2⟩
end
end Go.Proofs.Ytgnamdjmjkeodaa
