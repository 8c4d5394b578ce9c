/- Joined by tools/merge.py: what the texts behind want of those ahead. -/
import Derived.Test.YtdhmekpgplajmaaGreatDoorR1
import Derived.Test.YtdhmekpgplajmaaGreatDoorR2
import Derived.Test.YtdhmekpgplajmaaGreatDoorR3
import Derived.Test.YtdhmekpgplajmaaGreatDoorR4
import Derived.Test.YtdhmekpgplajmaaGreatDoorR5
import Derived.Test.YtdhmekpgplajmaaGreatDoorR6
import Derived.Test.YtdhmekpgplajmaaGreatDoorR7
import Derived.Test.YtdhmekpgplajmaaGreatDoorR8
import Derived.Test.YtdhmekpgplajmaaGreatDoorR9
import Derived.Test.YtdhmekpgplajmaaGreatDoorR10
import Derived.Test.YtdhmekpgplajmaaGreatDoorR11
import Derived.Test.YtdhmekpgplajmaaGreatDoorR12
import Derived.Test.YtdhmekpgplajmaaGreatDoorR13
import Derived.Test.YtdhmekpgplajmaaGreatDoorR14
import Derived.Test.YtdhmekpgplajmaaGreatDoorR15
import Derived.Test.YtdhmekpgplajmaaGreatDoorR16
import Derived.Test.YtdhmekpgplajmaaGreatDoorR17
import Derived.Test.YtdhmekpgplajmaaGreatDoorR18
import Derived.Test.YtdhmekpgplajmaaGreatDoorR19
namespace Go.Proofs.YtdhmekpgplajmaaGreatDoor
open Go.RowKit
theorem itemR_ne {l : List UInt8} {fr i kd ps : Nat} (h : itemR l fr i = .inl (kd, ps)) : kd ≠ 0 := by
  unfold itemR at h
  repeat' split at h
  all_goals first | (cases h; exact charR_ne (by assumption)) | (cases h; decide) | cases h
end Go.Proofs.YtdhmekpgplajmaaGreatDoor
