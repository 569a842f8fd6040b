import Derived.Test.Qxb6500912aGreatDoorZ24
namespace Go.Proofs.Qxb6500912aGreatDoor
open Go.Eng
set_option linter.unusedVariables false
set_option linter.unusedSimpArgs false

/-! ## both boards move alike -/
theorem cov_perm {l l' : List Bk} (h : l.Perm l') (k : Nat) : Cov l k ↔ Cov l' k :=
  ⟨fun ⟨x, h1, h2⟩ => ⟨x, h.mem_iff.1 h1, h2⟩, fun ⟨x, h1, h2⟩ => ⟨x, h.mem_iff.2 h1, h2⟩⟩
theorem AddR.fn {u bn : Int} {os os1 os2 : List Bk} {q : Int × Int} {r1 r2 : Int} {f : Nat} (hf : ((bn - u) % 4294967296) = (f : Int)) (hi : BInv f os) (h1 : AddR u bn os q os1 r1) (h2 : AddR u bn os q os2 r2) : os1 = os2 ∧ r1 = r2 := by
  rcases h1 with ⟨a0, rfl, rfl⟩ | ⟨a0, l1, p1, s1, h1⟩
  · rcases h2 with ⟨_, rfl, rfl⟩ | ⟨b0, _⟩
    · exact ⟨rfl, rfl⟩
    · omega
  · rcases h2 with ⟨b0, _⟩ | ⟨_, l2, p2, s2, h2⟩
    · omega
    · have hb : ∀ l : List Bk, l.Perm (os ++ [addX u bn q]) → ∀ x, x ∈ l → BIn f x := fun l hp x hx => by
        rcases List.mem_append.1 (hp.mem_iff.1 hx) with h | h
        · exact hi.all x h
        · rw [List.mem_singleton] at h; subst h; exact addX_in hf a0
      have m1 := mergeB_inv l1 [] trivial (hb l1 p1) s1 (fun _ _ _ h => by cases h)
      have m2 := mergeB_inv l2 [] trivial (hb l2 p2) s2 (fun _ _ _ h => by cases h)
      have e : mergeB l1 = mergeB l2 := binv_uniq m1.1 m2.1 fun k => by
        show Cov (l1.foldl mstep []) k ↔ Cov (l2.foldl mstep []) k
        rw [m1.2 k, m2.2 k, cov_perm p1 k, cov_perm p2 k]
      rw [e] at h1
      rcases h1 with ⟨c1, rfl, rfl⟩ | ⟨c1, rfl, rfl⟩ <;> rcases h2 with ⟨c2, rfl, rfl⟩ | ⟨c2, rfl, rfl⟩
      · exact ⟨rfl, rfl⟩
      · omega
      · omega
      · exact ⟨rfl, rfl⟩
theorem AddsR.fn {u bn : Int} {os : List Bk} {f : Nat} (hf : ((bn - u) % 4294967296) = (f : Int)) (hi : BInv f os) (hl : os.length ≤ 16) {bks : List (Int × Int)} {os1 : List Bk} {n1 : Int} (h1 : AddsR u bn os bks os1 n1) : ∀ {os2 : List Bk} {n2 : Int}, AddsR u bn os bks os2 n2 → os1 = os2 ∧ n1 = n2 := by
  induction h1 with
  | nil =>
    intro os2 n2 h2
    generalize hx : ([] : List (Int × Int)) = l at h2
    cases h2 with
    | nil => exact ⟨rfl, rfl⟩
    | snoc _ _ => simp at hx
  | @snoc bks o1 o2 n r b ha hb ih =>
    intro os2 n2 h2
    generalize hx : bks ++ [b] = l at h2
    cases h2 with
    | nil => simp at hx
    | @snoc bks' p1 p2 n' r' b' ha' hb' =>
      obtain ⟨e1, e2⟩ := List.append_inj' hx rfl
      subst e1
      injection e2 with e2 _
      subst e2
      obtain ⟨rfl, rfl⟩ := ih ha'
      obtain ⟨rfl, rfl⟩ := AddR.fn hf (ha.inv hf hi hl).1 hb hb'
      exact ⟨rfl, rfl⟩
/-- what an acknowledgement does to the model's board -/
def AckN (s : CS) (st : Int) (os : List Bk) (ack : Int) (bks : List (Int × Int)) (os' : List Bk) (n : Int) : Prop :=
  ((ack < s.una ∨ s.nxt < ack) ∧ os' = os ∧ n = 0) ∨ (¬ (ack < s.una ∨ s.nxt < ack) ∧ AddsR (seqM st ack) (seqM st s.nxt) (advO (ack - s.una).toNat os) bks os' n)
section acks
variable {s : CS} {sk lu dup : Bool} {ack : Int}
theorem dupM_un : (dupM s sk lu).una = s.una ∧ (dupM s sk lu).nxt = s.nxt := by
  unfold dupM; split
  · exact ⟨rfl, rfl⟩
  split
  · exact ⟨rfl, rfl⟩
  split <;> exact ⟨rfl, rfl⟩
theorem advM_un : (advM s sk ack).una = ack ∧ (advM s sk ack).nxt = s.nxt := by
  unfold advM
  have g := open_f (s := adv0 s ack) (k := ack - s.una)
  split
  · exact ⟨g.2.1, g.2.2.2⟩
  split
  · split
    · exact ⟨g.2.1, g.2.2.2⟩
    · exact ⟨g.2.1, g.2.2.2⟩
  split
  · exact ⟨rfl, rfl⟩
  split <;> exact ⟨rfl, rfl⟩
theorem ackM_nxt : (ackM s sk ack dup lu).nxt = s.nxt := by
  unfold ackM; split
  · rfl
  split
  · split
    · exact dupM_un.2
    · rfl
  · exact advM_un.2
theorem ackM_una (h : ¬ (ack < s.una ∨ s.nxt < ack)) : (ackM s sk ack dup lu).una = ack := by
  unfold ackM; rw [if_neg h]; split
  · rename_i h1
    split
    · rw [dupM_un.1, h1]
    · exact h1.symm
  · exact advM_un.1
theorem dup_3s (hk : sk = true) (h : s.phase = 0) (h1 : s.dupt ≤ s.dups + 1 ∨ lu = true) : dupM s sk lu = { halveM { s with dups := s.dups + 1 } with cwnd := bndP s (halveM { s with dups := s.dups + 1 }).ssth, phase := 1, recov := s.nxt, high := s.una, forced := true, resc := false, credit := 0 } := by
  rw [dup_3 h (.inr ⟨hk, h1⟩), hk]; rfl
theorem dup_4s (hk : sk = true) (h : s.phase = 0) (h1 : ¬ s.dupt ≤ s.dups + 1) (h2 : lu = false) : dupM s sk lu = { s with dups := s.dups + 1 } := dup_4 h (by
  rintro (⟨h3, _⟩ | ⟨_, h3 | h3⟩)
  · rw [hk] at h3; cases h3
  · exact h1 h3
  · rw [h2] at h3; cases h3)
theorem adv_1as (hk : sk = true) (h0 : ¬ s.phase = 0) (h : ¬ s.phase = 2) (h1 : s.recov ≤ ack) : advM s sk ack = { adv0 s ack with phase := 0, credit := 0 } := by
  rw [adv_1a h0 h h1, hk]; rfl
theorem at_0 {una : Int} {f : Nat} {g : Nat → Bool} (h : 0 < f) : atM una f g una = g 0 := by
  have := at_q (una := una) (g := g) h
  rwa [show una + ((0 : Nat) : Int) = una by omega] at this
end acks

end Go.Proofs.Qxb6500912aGreatDoor
