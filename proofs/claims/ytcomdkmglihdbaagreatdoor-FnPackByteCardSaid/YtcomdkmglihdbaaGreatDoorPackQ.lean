/- What the laws of packs say, in plain Lean: another byte, another key. No program in sight. -/
import Derived.Test.YtcomdkmglihdbaaGreatDoorPackPA
namespace Go.Proofs.YtcomdkmglihdbaaGreatDoor
open Go.RowKit
set_option linter.unusedSimpArgs false
set_option linter.unusedVariables false

theorem tail_len (key : List UInt8) (p : Pk) : (p.tail key).length = 69 := by
  unfold Pk.tail
  simp [macT_len]
theorem text_take (key : List UInt8) (p : Pk) : (p.text key).take ((p.text key).length - 69) = p.body := by
  unfold Pk.text
  rw [List.length_append, tail_len, Nat.add_sub_cancel, List.take_left]
theorem text_drop (key : List UInt8) (p : Pk) : (p.text key).drop ((p.text key).length - 69) = p.tail key := by
  unfold Pk.text
  rw [List.length_append, tail_len, Nat.add_sub_cancel, List.drop_left]
theorem text_len (key : List UInt8) (p : Pk) : (p.text key).length = p.body.length + 69 := by
  unfold Pk.text
  rw [List.length_append, tail_len]
theorem tail_mac {k k' : List UInt8} {p q : Pk} (h : p.tail k = q.tail k') : macT k p.body = macT k' q.body := by
  unfold Pk.tail at h
  have h2 := List.append_cancel_right h
  exact List.append_cancel_left h2
theorem set_ne {l : List UInt8} {i : Nat} {x : UInt8} (hi : i < l.length) (hx : l[i]? ≠ some x) : l.set i x ≠ l := fun e => by
  apply hx
  rw [← e, List.getElem?_set_self hi]
/-- One byte of a pack's text is another one: it is none, or the byte lies ahead of the tag and both bodies have one tag. -/
theorem byte_law {k s t : List UInt8} {p q : Pk} {at_ : Nat} {x : UInt8} (hp : isPack k s p) (hi : at_ < s.length) (hx : s[at_]? ≠ some x) (ht : t = s.set at_ x) (hq : isPack k t q) :
    at_ < s.length - 69 ∧ macT k (s.take (s.length - 69)) = macT k (t.take (s.length - 69)) := by
  obtain ⟨_, rfl⟩ := hp
  obtain ⟨_, hq2⟩ := hq
  have hlen : t.length = (p.text k).length := by rw [ht, List.length_set]
  have hb : t.take (t.length - 69) = q.body := by rw [hq2]; exact text_take k q
  have hd : t.drop (t.length - 69) = q.tail k := by rw [hq2]; exact text_drop k q
  rw [hlen] at hb hd
  have hb0 := text_take k p
  have hd0 := text_drop k p
  by_cases hc : at_ < (p.text k).length - 69
  · refine ⟨hc, ?_⟩
    rw [hb0, hb]
    apply tail_mac
    rw [← hd0, ← hd, ht, List.drop_set_of_lt hc]
  · exfalso
    have e1 : p.body = q.body := by
      rw [← hb0, ← hb, ht, List.take_set_of_le (by omega)]
    have e2 : p.tail k = q.tail k := by unfold Pk.tail; rw [e1]
    have e3 : t = p.text k := by
      rw [hq2]
      unfold Pk.text
      rw [← e1, e2]
    exact set_ne hi hx (ht.symm.trans e3)
/-- Read by another key it is none, or both keys tag it alike. -/
theorem key_law {k k' s : List UInt8} {p q : Pk} (hp : isPack k s p) (hq : isPack k' s q) : macT k (s.take (s.length - 69)) = macT k' (s.take (s.length - 69)) := by
  obtain ⟨_, rfl⟩ := hp
  obtain ⟨_, hq2⟩ := hq
  have hb : (p.text k).take ((p.text k).length - 69) = q.body := by
    have := text_take k' q
    rwa [← hq2] at this
  have hd : (p.text k).drop ((p.text k).length - 69) = q.tail k' := by
    have := text_drop k' q
    rwa [← hq2] at this
  rw [hb]
  have h1 := tail_mac (show p.tail k = q.tail k' by rw [← text_drop k p, hd])
  rw [← h1]
  have h2 : p.body = q.body := by rw [← text_take k p, hb]
  rw [h2]
end Go.Proofs.YtcomdkmglihdbaaGreatDoor
